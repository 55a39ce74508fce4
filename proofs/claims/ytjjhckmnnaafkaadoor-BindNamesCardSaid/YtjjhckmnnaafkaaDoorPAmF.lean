/- A part of a proof: functions of the program walked over the abstract machine, and what they compute. -/
import Derived.Test.YtjjhckmnnaafkaaDoorPAmE
import Derived.LoopN
set_option linter.unusedVariables false
set_option linter.unusedSimpArgs false
/- The abstract machine: walking. The rules in the form in which they are applied, one after the other. -/
namespace Go.Am
/-! forms that are worked out -/
/-- a number as a numeral -/
def fNat : Nat → Option Nat
  | 0 => some 0
  | 1 => some 1
  | 2 => some 2
  | 3 => some 3
  | 4 => some 4
  | 5 => some 5
  | 6 => some 6
  | 7 => some 7
  | 8 => some 8
  | 9 => some 9
  | 10 => some 10
  | 11 => some 11
  | 12 => some 12
  | 13 => some 13
  | 14 => some 14
  | 15 => some 15
  | 16 => some 16
  | 17 => some 17
  | 18 => some 18
  | 19 => some 19
  | 20 => some 20
  | 21 => some 21
  | 22 => some 22
  | 23 => some 23
  | 24 => some 24
  | 25 => some 25
  | 26 => some 26
  | 27 => some 27
  | 28 => some 28
  | 29 => some 29
  | 30 => some 30
  | 31 => some 31
  | 32 => some 32
  | 33 => some 33
  | 34 => some 34
  | 35 => some 35
  | 36 => some 36
  | 37 => some 37
  | 38 => some 38
  | 39 => some 39
  | n => some n
theorem fNat_eq (n : Nat) : fNat n = some n := by unfold fNat; split <;> rfl
def fV : V → Option V
  | .agg cs => match fL cs with
    | some cs => some (.agg cs)
    | none => none
  | .tup xs => match fL xs with
    | some xs => some (.tup xs)
    | none => none
  | .one c => match c with
    | .rptr ds => match fL ds with
      | some ds => some (.one (.rptr ds))
      | none => none
    | .fn f a b => match fL a, fL b with
      | some a, some b => some (.one (.fn f a b))
      | _, _ => none
    | .d x => some (.one (.d x))
    | .arr a b c => match fNat a with
      | some a => some (.one (.arr a b c))
      | none => none
    | .ptr a b => match fNat a, fNat b with
      | some a, some b => some (.one (.ptr a b))
      | _, _ => none
    | .eptr a b c d e f => some (.one (.eptr a b c d e f))
    | .map a => match fNat a with
      | some a => some (.one (.map a))
      | none => none
  | .undef => some .undef
theorem fV_eq (v : V) : fV v = some v := by
  cases v with
  | one c => cases c <;> simp [fV, fL_eq, fNat_eq]
  | _ => simp [fV, fL_eq]
def fO : Ob → Option Ob
  | .var cs => match fL cs with
    | some cs => some (.var cs)
    | none => none
  | .arr a b c d => match fNat c with
    | some c => some (.arr a b c d)
    | none => none
  | .map es => some (.map es)
  | .dead => some .dead
theorem fO_eq (o : Ob) : fO o = some o := by cases o <;> simp [fO, fL_eq, fNat_eq]
def fS : St → Option St
  | [] => some []
  | o :: r => match fO o, fS r with
    | some o, some r => some (o :: r)
    | _, _ => none
theorem fS_eq : ∀ σ : St, fS σ = some σ
  | [] => rfl
  | o :: r => by simp [fS, fO_eq, fS_eq r]
/-- the variables of a list, as they stand -/
def pick : List Nat → Env → Option Env
  | [], _ => some []
  | t :: r, e => match Env.get e t, pick r e with
    | some v, some e' => some ((t, v) :: e')
    | _, _ => none
theorem pick_sub : ∀ {l : List Nat} {e e' : Env}, pick l e = some e' → Sub e' e
  | [], e, e', h => by simp only [pick, Option.some.injEq] at h; subst h; intro t v h; simp [Env.get] at h
  | s :: r, e, e', h => by
    simp only [pick] at h
    cases hg : Env.get e s with
    | none => simp [hg] at h
    | some v =>
    cases hr : pick r e with
    | none => simp [hg, hr] at h
    | some e2 =>
    simp only [hg, hr, Option.some.injEq] at h; subst h
    intro t u ht
    simp only [Env.get] at ht
    cases hb : Nat.beq s t with
    | true =>
      rw [hb] at ht; simp only [cond_true, Option.some.injEq] at ht; subst ht
      rw [← Nat.eq_of_beq_eq_true hb]; exact hg
    | false => rw [hb] at ht; exact pick_sub hr t u ht
/-! regions, operation by operation -/
def idxs : List Oper → Nat → List Nat
  | [], _ => []
  | _ :: r, k => k :: idxs r (k + 1)
theorem idxs_range : ∀ (l : List Oper) (k : Nat), idxs l k = List.range' k l.length
  | [], _ => rfl
  | _ :: r, k => by rw [idxs, idxs_range r (k + 1)]; rfl
def WL [HasGlob] (C : Cx) (all l : List Oper) (k : Nat) (e : Env) (σ : St) (Q : Env → St → Prop) : Prop :=
  (∀ j o, l[j]? = some o → all[k + j]? = some o) → WO C all.toArray (idxs l k) e σ Q
section
variable {C : Cx} {all l : List Oper} {k : Nat} {e : Env} {σ : St} {o : Oper}
theorem W.reg [HasGlob] {id : Nat} {Q : Ex → Env → St → Prop} (h : WL C all all 0 e σ fun e' σ' => Q .normal e' σ') : W C (.region id all.toArray false) e σ Q := by
  refine W.region ?_
  have := h (fun j o hj => by simpa using hj)
  rw [idxs_range] at this
  simpa [List.range_eq_range'] using this
/-- a region's end: the variables that are needed further on -/
theorem WL.nil [HasGlob] {Q : Env → St → Prop} (ls : List Nat) {e' : Env} {σ' : St} (hp : pick ls e = some e') (hσ : fS σ = some σ') (h : Q e' σ') : WL C all [] k e σ Q := by
  rw [fS_eq] at hσ; injection hσ with hσ; subst hσ
  exact fun _ κ w a hs => (WO.nil (Q := Q) (C := C) (ops := all.toArray) (e := e') h) κ w a (hs.sub (pick_sub hp))
theorem WL.tail [HasGlob] {Q : Env → St → Prop} (hall : ∀ j p, (o :: l)[j]? = some p → all[k + j]? = some p) (h : WL C all l (k + 1) e σ Q) : WO C all.toArray (idxs l (k + 1)) e σ Q :=
  h fun j p hj => by have := hall (j + 1) p (by simpa using hj); rw [show k + 1 + j = k + (j + 1) from by omega]; exact this
theorem head_of (hall : ∀ j p, (o :: l)[j]? = some p → all[k + j]? = some p) : all.toArray[k]? = some o := by
  have := hall 0 o rfl; simpa using this
variable {Q : Env → St → Prop}
theorem WL.skip [HasGlob] (hg : guardOk e all o = some false) (hd : dstOk C.n o = true) (h : WL C all l (k + 1) (Env.put e o.dst .undef) σ Q) : WL C all (o :: l) k e σ Q :=
  fun hall => WO.skip (head_of hall) (by simpa using hg) hd (WL.tail hall h)
/-- a quiet operation -/
theorem WL.q [HasGlob] (hT : C.T.fits C.P) (hg : guardOk e all o = some true) (hd : dstOk C.n o = true) (hm : makes C o = false)
    {v v' : V} (hop : aop C 0 e σ o = some (v, [])) (hv : fV v = some v') (h : WL C all l (k + 1) (Env.put e o.dst v') σ Q) : WL C all (o :: l) k e σ Q := by
  rw [fV_eq] at hv; injection hv with hv; subst hv
  exact fun hall => WO.val hT (head_of hall) (by simpa using hg) hd hm hop (WL.tail hall h)
/-- an operation that writes -/
theorem WL.w [HasGlob] (hT : C.T.fits C.P) (hg : guardOk e all o = some true) (hd : dstOk C.n o = true) (hm : makes C o = false)
    {v v' : V} {u : Upd} {σ' : St} (hop : aop C 0 e σ o = some (v, u)) (hv : fV v = some v') (hσ : fS (σ.upd u) = some σ') (h : WL C all l (k + 1) (Env.put e o.dst v') σ' Q) : WL C all (o :: l) k e σ Q := by
  rw [fV_eq] at hv; injection hv with hv; subst hv
  rw [fS_eq] at hσ; injection hσ with hσ; subst hσ
  exact fun hall => WO.val hT (head_of hall) (by simpa using hg) hd hm hop (WL.tail hall h)
/-- an operation that makes an object -/
theorem WL.m [HasGlob] (hT : C.T.fits C.P) (hg : guardOk e all o = some true) (hd : dstOk C.n o = true)
    {v v' : V} {u : Upd} {σ' : St} (hop : aop C σ.length e (σ ++ [.dead]) o = some (v, u)) (hv : fV v = some v') (hσ : fS (St.upd (σ ++ [.dead]) u) = some σ')
    (h : WL C all l (k + 1) (Env.put e o.dst v') σ' Q) : WL C all (o :: l) k e σ Q := by
  rw [fV_eq] at hv; injection hv with hv; subst hv
  rw [fS_eq] at hσ; injection hσ with hσ; subst hσ
  exact fun hall => WO.make hT (head_of hall) (by simpa using hg) hd hop (WL.tail hall h)
/-- a call of a function that only computes -/
theorem WL.c [HasGlob] (hg : guardOk e all o = some true) (hd : dstOk C.n o = true) {f : FuncId} {vs vs' : List V} {r : V} (hc : calleeOf e o = some (f, vs)) (hsn : snapVs (fun id => σ[id]?) vs = some vs')
    (hni : vs'.all noIds = true) (hS : Comp C.P f vs' r) (hr : noIds r = true) (h : WL C all l (k + 1) (Env.put e o.dst r) σ Q) : WL C all (o :: l) k e σ Q :=
  fun hall => WO.call (head_of hall) (by simpa using hg) hd hc hsn hni hS (fun r' σ' ⟨h1, h2⟩ => ⟨h2, by rw [h1]; exact hr⟩) (fun r' ⟨h1, _⟩ => by rw [h1]; exact WL.tail hall h)
end
end Go.Am
/- The abstract machine: a region that draws its order. -/
namespace Go.Am
/-- what an operation did: what it wrote, what it read -/
structure Rec where
  dst : Option Nat
  v : V
  u : Upd
  T : List Nat
  F : List Nat
  G : List (Nat × Nat × Nat)
  K : List (Nat × Nat × Nat)
def Rec.env (r : Rec) (e : Env) : Env := Env.put e r.dst r.v
def Rec.st (r : Rec) (σ : St) : St := σ.upd r.u
/-- the ids that are written -/
def Rec.ws (r : Rec) : List Nat := r.u.map (·.1)
/-- cells of a variable: its number, the first, how many -/
def rng (σ : St) (g : Nat × Nat × Nat) : Option (List Cell) :=
  match σ[g.1]? with
  | some (.var cs) => some ((cs.drop g.2.1).take g.2.2)
  | _ => none
/-- what is said to be kept is kept -/
def Keeps (r : Rec) (σ : St) : Prop := ∀ g ∈ r.K, rng (r.st σ) g = rng σ g
theorem Keeps.none {r : Rec} {σ : St} (h : r.K = []) : Keeps r σ := fun g hg => by rw [h] at hg; cases hg
/-- an operation does so wherever what it reads is the same -/
def Valid [HasGlob] (C : Cx) (ops : Array Oper) (i : Nat) (r : Rec) (e : Env) (σ : St) : Prop :=
  ∀ e2 σ2, (∀ t ∈ r.T, Env.get e2 t = Env.get e t) → (∀ id, id ∈ r.F ∨ id ∈ r.ws → σ2[id]? = σ[id]?) → σ2.length = σ.length → (∀ g ∈ r.G, rng σ2 g = rng σ g) →
    ∀ (Q : Exit → Act → World → Prop) (K : Act → World → Prop) κ w a, SR C.n κ w e2 σ2 a →
      (∀ κ' w' a', Evo κ w σ2 κ' w' (r.st σ2) → SR C.n κ' w' (r.env e2) (r.st σ2) a' → K a' w') → wpOp C.P ops Q i K a w
def disjoint (a b : List Nat) : Bool := a.all fun x => !b.elem x
def notIn (d : Option Nat) (l : List Nat) : Bool :=
  match d with
  | some t => !l.elem t
  | none => true
def otherDst (a b : Option Nat) : Bool :=
  match a, b with
  | some x, some y => !Nat.beq x y
  | _, _ => true
def eqG (a b : Nat × Nat × Nat) : Bool := Nat.beq a.1 b.1 && (Nat.beq a.2.1 b.2.1 && Nat.beq a.2.2 b.2.2)
theorem eqG_sound {a b : Nat × Nat × Nat} (h : eqG a b = true) : a = b := by
  obtain ⟨a1, a2, a3⟩ := a
  obtain ⟨b1, b2, b3⟩ := b
  simp only [eqG, Bool.and_eq_true] at h
  rw [Nat.eq_of_beq_eq_true h.1, Nat.eq_of_beq_eq_true h.2.1, Nat.eq_of_beq_eq_true h.2.2]
/-- what the one reads is kept by the other one (that comes later), and not touched by what came earlier -/
def gFree (p r : Rec) : Bool := (p.G.all fun g => !r.ws.elem g.1 || r.K.any (eqG g)) && r.G.all fun g => !p.ws.elem g.1
/-- two operations that may stand in either order -/
def free (p r : Rec) : Bool :=
  (notIn p.dst r.T && notIn r.dst p.T && otherDst p.dst r.dst) && (disjoint p.ws r.F && disjoint p.ws r.ws && (disjoint r.ws p.F && gFree p r))
/-- is the operation behind held to come after number i? -/
def edge (o : Oper) (i : Nat) : Bool := o.after.toList.any fun e => Nat.beq e.on i && Region.binds .any e
/-- .. or by way of a third -/
def via1 (all : List Oper) (o : Oper) (i : Nat) : Bool := o.after.toList.any fun e => Region.binds .any e && match all[e.on]? with
  | some m => edge m i
  | none => false
def checkOne (all : List Oper) (o : Oper) (r : Rec) : List Rec → Nat → Bool
  | [], _ => true
  | p :: ps, i => ((edge o i || free p r) || via1 all o i) && checkOne all o r ps (i + 1)
/-- every two operations are held in their order, or may stand in either -/
def checkA (all : List Oper) : List Oper → List Rec → List Rec → Bool
  | [], [], _ => true
  | o :: os, r :: rs, done => checkOne all o r done 0 && checkA all os rs (done ++ [r])
  | _, _, _ => false
def check (os : List Oper) (rs done : List Rec) : Bool := checkA os os rs done
theorem checkOne_spec {all : List Oper} {o : Oper} {r : Rec} : ∀ {ps : List Rec} {k : Nat}, checkOne all o r ps k = true → ∀ j p, ps[j]? = some p → edge o (k + j) = true ∨ free p r = true ∨ via1 all o (k + j) = true
  | [], _, _, j, p, h => by simp at h
  | q :: ps, k, h, j, p, hp => by
    simp only [checkOne, Bool.and_eq_true, Bool.or_eq_true] at h
    cases j with
    | zero =>
      simp at hp; subst hp
      rcases h.1 with (h1 | h1) | h1
      · exact .inl h1
      · exact .inr (.inl h1)
      · exact .inr (.inr h1)
    | succ j =>
      have := checkOne_spec h.2 j p (by simpa using hp)
      rw [show k + (j + 1) = k + 1 + j from by omega]; exact this
theorem checkA_spec {all : List Oper} : ∀ {os : List Oper} {rs done : List Rec}, checkA all os rs done = true → rs.length = os.length ∧
    ∀ i o r, os[i]? = some o → rs[i]? = some r → ∀ j p, (done ++ rs)[j]? = some p → j < done.length + i → edge o j = true ∨ free p r = true ∨ via1 all o j = true
  | [], [], done, _ => ⟨rfl, fun i o r h => by simp at h⟩
  | [], _ :: _, _, h => by simp [checkA] at h
  | _ :: _, [], _, h => by simp [checkA] at h
  | o :: os, r :: rs, done, h => by
    simp only [checkA, Bool.and_eq_true] at h
    obtain ⟨h1, h2⟩ := checkA_spec h.2
    refine ⟨by simp [h1], fun i o' r' ho hr j p hp hj => ?_⟩
    cases i with
    | zero =>
      simp at ho hr; subst ho; subst hr
      have := checkOne_spec h.1 j p (by rw [List.getElem?_append] at hp; rw [if_pos (by omega)] at hp; exact hp)
      simpa using this
    | succ i =>
      refine h2 i o' r' (by simpa using ho) (by simpa using hr) j p ?_ (by simp; omega)
      simpa using hp
theorem check_spec {os : List Oper} {rs done : List Rec} (h : check os rs done = true) : rs.length = os.length ∧
    ∀ i o r, os[i]? = some o → rs[i]? = some r → ∀ j p, (done ++ rs)[j]? = some p → j < done.length + i → edge o j = true ∨ free p r = true ∨ via1 os o j = true := checkA_spec h
/-! states in which some of the operations are done -/
def envD (L : Nat → Bool) : List Rec → Nat → Env → Env
  | [], _, e => e
  | r :: rs, k, e => envD L rs (k + 1) (bif L k then r.env e else e)
def stD (L : Nat → Bool) : List Rec → Nat → St → St
  | [], _, σ => σ
  | r :: rs, k, σ => stD L rs (k + 1) (bif L k then r.st σ else σ)
theorem put_get (e : Env) (d : Option Nat) (v : V) (t : Nat) : Env.get (Env.put e d v) t = if d = some t then some v else Env.get e t := by
  cases d with
  | none => simp [Env.put]
  | some s =>
    simp only [Env.put, Env.get_set]
    by_cases h : t = s
    · subst h; simp
    · rw [if_neg h, if_neg (by simp; exact fun e => h e.symm)]
theorem upd_length : ∀ (u : Upd) (σ : St), (σ.upd u).length = σ.length
  | [], _ => rfl
  | (i, o) :: u, σ => by simp only [St.upd]; rw [upd_length u]; simp
theorem upd_other : ∀ {u : Upd} {σ : St} {id : Nat}, id ∉ u.map (·.1) → (σ.upd u)[id]? = σ[id]?
  | [], _, _, _ => rfl
  | (i, o) :: u, σ, id, h => by
    simp only [List.map_cons, List.mem_cons, not_or] at h
    simp only [St.upd]
    rw [upd_other h.2, List.getElem?_set_ne (fun e => h.1 e.symm)]
theorem upd_congr : ∀ {u : Upd} {σ σ2 : St} {id : Nat}, σ2.length = σ.length → σ2[id]? = σ[id]? → (σ2.upd u)[id]? = (σ.upd u)[id]?
  | [], _, _, _, _, h => h
  | (i, o) :: u, σ, σ2, id, hl, h => by
    simp only [St.upd]
    refine upd_congr (by simp [hl]) ?_
    by_cases hi : i = id
    · subst hi
      by_cases hlt : i < σ.length
      · rw [List.getElem?_set_self hlt, List.getElem?_set_self (by omega)]
      · rw [List.getElem?_eq_none (by simp; omega), List.getElem?_eq_none (by simp; omega)]
    · rw [List.getElem?_set_ne hi, List.getElem?_set_ne hi]; exact h
theorem stD_length (L : Nat → Bool) : ∀ (rs : List Rec) (k : Nat) (σ : St), (stD L rs k σ).length = σ.length
  | [], _, _ => rfl
  | r :: rs, k, σ => by
    simp only [stD]; rw [stD_length L rs]
    cases L k
    · rfl
    · exact upd_length _ _
/-- looking up a temporary that none of the later ones writes -/
theorem envD_skip (L : Nat → Bool) (t : Nat) : ∀ (rs : List Rec) (k : Nat) (e : Env), (∀ j r, rs[j]? = some r → L (k + j) = true → r.dst ≠ some t) → Env.get (envD L rs k e) t = Env.get e t
  | [], _, _, _ => rfl
  | r :: rs, k, e, h => by
    simp only [envD]
    rw [envD_skip L t rs (k + 1) _ fun j r' hj hL => h (j + 1) r' (by simpa using hj) (by rw [show k + (j + 1) = k + 1 + j from by omega]; exact hL)]
    cases hk : L k with
    | false => rfl
    | true =>
      simp only [cond_true, Rec.env, put_get]
      rw [if_neg (h 0 r rfl (by simpa using hk))]
theorem stD_skip (L : Nat → Bool) (id : Nat) : ∀ (rs : List Rec) (k : Nat) (σ : St), (∀ j r, rs[j]? = some r → L (k + j) = true → id ∉ r.ws) → (stD L rs k σ)[id]? = σ[id]?
  | [], _, _, _ => rfl
  | r :: rs, k, σ, h => by
    simp only [stD]
    rw [stD_skip L id rs (k + 1) _ fun j r' hj hL => h (j + 1) r' (by simpa using hj) (by rw [show k + (j + 1) = k + 1 + j from by omega]; exact hL)]
    cases hk : L k with
    | false => rfl
    | true => exact upd_other (h 0 r rfl (by simpa using hk))
theorem envD_congr (L : Nat → Bool) (t : Nat) : ∀ (rs : List Rec) (k : Nat) (e e2 : Env), Env.get e2 t = Env.get e t → Env.get (envD L rs k e2) t = Env.get (envD L rs k e) t
  | [], _, _, _, h => h
  | r :: rs, k, e, e2, h => by
    simp only [envD]
    refine envD_congr L t rs (k + 1) _ _ ?_
    cases L k with
    | false => exact h
    | true => simp only [cond_true, Rec.env, put_get, h]
theorem stD_congr (L : Nat → Bool) (id : Nat) : ∀ (rs : List Rec) (k : Nat) (σ σ2 : St), σ2.length = σ.length → σ2[id]? = σ[id]? → (stD L rs k σ2)[id]? = (stD L rs k σ)[id]?
  | [], _, _, _, _, h => h
  | r :: rs, k, σ, σ2, hl, h => by
    simp only [stD]
    refine stD_congr L id rs (k + 1) _ _ ?_ ?_
    · cases L k
      · exact hl
      · simp only [cond_true, Rec.st, upd_length]; exact hl
    · cases L k with
      | false => exact h
      | true => exact upd_congr hl h
theorem envD_agree (t : Nat) {L M : Nat → Bool} : ∀ (rs : List Rec) (k : Nat) (e : Env), (∀ j r, rs[j]? = some r → L (k + j) ≠ M (k + j) → r.dst ≠ some t) → Env.get (envD L rs k e) t = Env.get (envD M rs k e) t
  | [], _, _, _ => rfl
  | r :: rs, k, e, h => by
    simp only [envD]
    have ih := fun e => envD_agree t (L := L) (M := M) rs (k + 1) e fun j r' hj hne => h (j + 1) r' (by simpa using hj) (by rw [show k + (j + 1) = k + 1 + j from by omega]; exact hne)
    by_cases hk : L k = M k
    · rw [hk]; exact ih _
    · have hd := h 0 r rfl (by simpa using hk)
      rw [ih]
      refine envD_congr M t rs (k + 1) _ _ ?_
      have hp : ∀ b : Bool, Env.get (bif b then r.env e else e) t = Env.get e t := by
        intro b; cases b
        · rfl
        · simp only [cond_true, Rec.env, put_get]; rw [if_neg hd]
      rw [hp, hp]
theorem cond_length (b : Bool) (r : Rec) (σ : St) : (bif b then r.st σ else σ).length = σ.length := by
  cases b
  · rfl
  · exact upd_length _ _
theorem stD_agree (id : Nat) {L M : Nat → Bool} : ∀ (rs : List Rec) (k : Nat) (σ : St), (∀ j r, rs[j]? = some r → L (k + j) ≠ M (k + j) → id ∉ r.ws) → (stD L rs k σ)[id]? = (stD M rs k σ)[id]?
  | [], _, _, _ => rfl
  | r :: rs, k, σ, h => by
    simp only [stD]
    have ih := fun σ => stD_agree id (L := L) (M := M) rs (k + 1) σ fun j r' hj hne => h (j + 1) r' (by simpa using hj) (by rw [show k + (j + 1) = k + 1 + j from by omega]; exact hne)
    by_cases hk : L k = M k
    · rw [hk]; exact ih _
    · have hd := h 0 r rfl (by simpa using hk)
      rw [ih]
      refine stD_congr M id rs (k + 1) _ _ (by rw [cond_length, cond_length]) ?_
      have hp : ∀ b : Bool, (bif b then r.st σ else σ)[id]? = σ[id]? := by
        intro b; cases b
        · rfl
        · exact upd_other hd
      rw [hp, hp]
/-- one more is done: its destination, its objects; all else as before -/
theorem envD_more {L L' : Nat → Bool} {i : Nat} (hs : ∀ j, L' j = if i = j then true else L j) (hLi : L i = false) {r : Rec} {t : Nat} : ∀ (rs : List Rec) (k : Nat) (e : Env), k ≤ i → rs[i - k]? = some r →
    (∀ j r', rs[j]? = some r' → k + j > i → L (k + j) = true → otherDst r'.dst r.dst = true) →
    Env.get (envD L' rs k e) t = if r.dst = some t then some r.v else Env.get (envD L rs k e) t
  | [], k, e, hk, hr, _ => by simp at hr
  | p :: rs, k, e, hk, hr, hall => by
    simp only [envD]
    by_cases hki : i = k
    · subst hki
      simp at hr; subst hr
      rw [hs i]
      simp only [if_true, cond_true, hLi, cond_false]
      rw [envD_agree t (L := L') (M := L) rs (i + 1) _ fun j r' hj hne => absurd (by rw [hs]; rw [if_neg (by omega)]) hne]
      by_cases hd : p.dst = some t
      · rw [if_pos hd, envD_skip]
        · simp [Rec.env, put_get, hd]
        · intro j r' hj hL he
          have := hall (j + 1) r' (by simpa using hj) (by omega) (by rw [show i + (j + 1) = i + 1 + j from by omega]; exact hL)
          rw [he, hd] at this; simp [otherDst] at this
      · rw [if_neg hd]
        exact envD_congr L t rs (i + 1) e _ (by simp [Rec.env, put_get, hd])
    · rw [show L' k = L k from by rw [hs]; rw [if_neg hki]]
      refine envD_more hs hLi rs (k + 1) _ (by omega) ?_ ?_
      · rw [show i - k = (i - (k + 1)) + 1 from by omega] at hr; simpa using hr
      · intro j r' hj hgt hL
        exact hall (j + 1) r' (by simpa using hj) (by omega) (by rw [show k + (j + 1) = k + 1 + j from by omega]; exact hL)
theorem stD_more {L L' : Nat → Bool} {i : Nat} (hs : ∀ j, L' j = if i = j then true else L j) (hLi : L i = false) {r : Rec} {id : Nat} : ∀ (rs : List Rec) (k : Nat) (σ : St), k ≤ i → rs[i - k]? = some r →
    (∀ j r', rs[j]? = some r' → k + j > i → L (k + j) = true → disjoint r.ws r'.ws = true) →
    (∀ j r', rs[j]? = some r' → k + j < i → L (k + j) = true → True) →
    (stD L' rs k σ)[id]? = (r.st (stD L rs k σ))[id]?
  | [], k, e, hk, hr, _, _ => by simp at hr
  | p :: rs, k, σ, hk, hr, hall, _ => by
    simp only [stD]
    by_cases hki : i = k
    · subst hki
      simp at hr; subst hr
      rw [hs i]
      simp only [if_true, cond_true, hLi, cond_false]
      rw [stD_agree id (L := L') (M := L) rs (i + 1) _ fun j r' hj hne => absurd (by rw [hs]; rw [if_neg (by omega)]) hne]
      by_cases hd : id ∈ p.ws
      · rw [stD_skip]
        · refine (upd_congr ?_ ?_).symm
          · exact stD_length _ _ _ _
          · refine stD_skip L id rs (i + 1) σ fun j r' hj hL he => ?_
            have := hall (j + 1) r' (by simpa using hj) (by omega) (by rw [show i + (j + 1) = i + 1 + j from by omega]; exact hL)
            simp only [disjoint, List.all_eq_true] at this
            have := this id hd
            simp at this; exact this he
        · intro j r' hj hL he
          have := hall (j + 1) r' (by simpa using hj) (by omega) (by rw [show i + (j + 1) = i + 1 + j from by omega]; exact hL)
          simp only [disjoint, List.all_eq_true] at this
          have := this id hd
          simp at this; exact this he
      · rw [show (p.st (stD L rs (i + 1) σ))[id]? = (stD L rs (i + 1) σ)[id]? from upd_other hd]
        exact stD_congr L id rs (i + 1) σ _ (upd_length _ _) (upd_other hd)
    · rw [show L' k = L k from by rw [hs]; rw [if_neg hki]]
      refine stD_more hs hLi rs (k + 1) _ (by omega) ?_ ?_ (fun _ _ _ _ _ => trivial)
      · rw [show i - k = (i - (k + 1)) + 1 from by omega] at hr; simpa using hr
      · intro j r' hj hgt hL
        exact hall (j + 1) r' (by simpa using hj) (by omega) (by rw [show k + (j + 1) = k + 1 + j from by omega]; exact hL)
/-- all edges lead back -/
def backs : List Oper → Nat → Bool
  | [], _ => true
  | o :: os, i => (o.after.toList.all fun e => !Region.binds .any e || Nat.blt e.on i) && backs os (i + 1)
theorem backs_spec : ∀ {os : List Oper} {k : Nat}, backs os k = true → ∀ i o, os[i]? = some o → ∀ e ∈ o.after.toList, Region.binds .any e = true → e.on < k + i
  | [], _, _, i, o, h => by simp at h
  | p :: os, k, h, i, o, ho => by
    simp only [backs, Bool.and_eq_true, List.all_eq_true, Bool.or_eq_true] at h
    cases i with
    | zero =>
      simp at ho; subst ho
      intro e he hb
      rcases h.1 e he with h1 | h1
      · rw [hb] at h1; simp at h1
      · exact Nat.le_of_ble_eq_true h1
    | succ i =>
      intro e he hb
      have := backs_spec h.2 i o (by simpa using ho) e he hb
      omega
theorem SR.same [HasGlob] {N κ w e σ a e' σ'} (h : SR N κ w e σ a) (he : ∀ t, Env.get e' t = Env.get e t) (hσ : ∀ id : Nat, σ'[id]? = σ[id]?) : SR N κ w e' σ' a := by
  have : σ' = σ := List.ext_getElem? hσ
  subst this
  exact ⟨fun t v ht => h.env t v (he t ▸ ht), h.rs, h.defers, h.size⟩
section
variable {C : Cx} {ops : Array Oper} {rs : List Rec} {e0 : Env} {σ0 : St} {κ0 : K} {w0 : World} {Q : Exit → Act → World → Prop}
def listed (L : Array Bool) : Nat → Bool := fun j => L.getD j false
theorem upd_in : ∀ {u : Upd} {σ σ2 : St} {id : Nat}, id ∈ u.map (·.1) → σ2.length = σ.length → (σ2.upd u)[id]? = (σ.upd u)[id]?
  | [], _, _, _, h, _ => by simp at h
  | (i, o) :: u, σ, σ2, id, h, hl => by
    simp only [St.upd]
    by_cases hin : id ∈ u.map (·.1)
    · exact upd_in hin (by simp [hl])
    · have hi : id = i := by
        simp only [List.map_cons, List.mem_cons] at h
        exact h.resolve_right hin
      subst hi
      rw [upd_other hin, upd_other hin]
      by_cases hlt : id < σ.length
      · rw [List.getElem?_set_self hlt, List.getElem?_set_self (by omega)]
      · rw [List.getElem?_eq_none (by simp; omega), List.getElem?_eq_none (by simp; omega)]
theorem rng_congr {σ σ2 : St} {g : Nat × Nat × Nat} (h : σ2[g.1]? = σ[g.1]?) : rng σ2 g = rng σ g := by
  unfold rng; rw [h]
theorem rng_agree {g : Nat × Nat × Nat} {i : Nat} {L : Nat → Bool} (hLi : L i = false) (rs : List Rec) (σ0 : St) (hin : i < rs.length)
    (hbefore : ∀ j p, rs[j]? = some p → j < i → L j = false → g.1 ∉ p.ws)
    (hafter : ∀ j p, rs[j]? = some p → i < j → L j = true → g.1 ∈ p.ws → rng (p.st (stD (fun m => decide (m < j)) rs 0 σ0)) g = rng (stD (fun m => decide (m < j)) rs 0 σ0) g)
    (hord : ∀ k j q p, rs[k]? = some q → rs[j]? = some p → k < j → g.1 ∈ q.ws → g.1 ∈ p.ws → L j = true → L k = true) :
    rng (stD L rs 0 σ0) g = rng (stD (fun m => decide (m < i)) rs 0 σ0) g := by
  have hlt : ∀ {j : Nat} {p : Rec}, rs[j]? = some p → j < rs.length := fun h => (List.getElem?_eq_some_iff.1 h).1
  have inv : ∀ d, i + d ≤ rs.length →
      ((stD (fun j => L j && decide (j < i + d)) rs 0 σ0)[g.1]? = (stD (fun j => decide (j < i + d)) rs 0 σ0)[g.1]? ∧ rng (stD (fun j => decide (j < i + d)) rs 0 σ0) g = rng (stD (fun m => decide (m < i)) rs 0 σ0) g) ∨
      (rng (stD (fun j => L j && decide (j < i + d)) rs 0 σ0) g = rng (stD (fun m => decide (m < i)) rs 0 σ0) g ∧ ∃ k q, i ≤ k ∧ k < i + d ∧ rs[k]? = some q ∧ L k = false ∧ g.1 ∈ q.ws) := by
    intro d
    induction d with
    | zero =>
      intro _
      left
      refine ⟨?_, rfl⟩
      refine stD_agree g.1 rs 0 σ0 fun j r hj hne hw => ?_
      rw [Nat.zero_add, Nat.add_zero] at hne
      by_cases h : j < i
      · have : L j = false := by
          cases hl : L j with
          | false => rfl
          | true => rw [hl] at hne; simp at hne
        exact hbefore j r hj h this hw
      · simp [h] at hne
    | succ d ih =>
      intro hle
      have hr : rs[i + d]? = some rs[i + d] := List.getElem?_eq_getElem (by omega)
      generalize rs[i + d] = r at hr
      have hC : ∀ id : Nat, (stD (fun j => decide (j < i + (d + 1))) rs 0 σ0)[id]? = (r.st (stD (fun j => decide (j < i + d)) rs 0 σ0))[id]? := fun id =>
        stD_more (i := i + d) (L := fun j => decide (j < i + d)) (L' := fun j => decide (j < i + (d + 1))) (fun j => by
          by_cases h : i + d = j
          · subst h; simp
          · rw [if_neg h]
            by_cases h2 : j < i + d
            · rw [decide_eq_true h2, decide_eq_true (show j < i + (d + 1) by omega)]
            · rw [decide_eq_false h2, decide_eq_false (show ¬ j < i + (d + 1) by omega)]) (by simp) rs 0 σ0 (Nat.zero_le _) (by simpa using hr)
          (fun j r' _ hgt hL => by rw [Nat.zero_add] at hgt hL; simp only [decide_eq_true_eq] at hL; omega) (fun _ _ _ _ _ => trivial)
      have hlen2 : ∀ M : Nat → Bool, (stD M rs 0 σ0).length = σ0.length := fun M => stD_length _ _ _ _
      cases hl : L (i + d) with
      | true =>
        have hA : ∀ id : Nat, (stD (fun j => L j && decide (j < i + (d + 1))) rs 0 σ0)[id]? = (r.st (stD (fun j => L j && decide (j < i + d)) rs 0 σ0))[id]? := fun id =>
          stD_more (i := i + d) (L := fun j => L j && decide (j < i + d)) (L' := fun j => L j && decide (j < i + (d + 1))) (fun j => by
            by_cases h : i + d = j
            · subst h; simp [hl]
            · rw [if_neg h]
              by_cases h2 : j < i + d
              · rw [decide_eq_true h2, decide_eq_true (show j < i + (d + 1) by omega)]
              · rw [decide_eq_false h2, decide_eq_false (show ¬ j < i + (d + 1) by omega)]) (by simp) rs 0 σ0 (Nat.zero_le _) (by simpa using hr)
            (fun j r' _ hgt hL => by rw [Nat.zero_add] at hgt hL; simp only [Bool.and_eq_true, decide_eq_true_eq] at hL; omega) (fun _ _ _ _ _ => trivial)
        by_cases hw : g.1 ∈ r.ws
        · rcases ih (by omega) with ⟨h1, h2⟩ | ⟨h1, k, q, h2, h3, h4, h5, h6⟩
          · left
            have hd : 0 < d := by
              rcases Nat.eq_zero_or_pos d with h | h
              · subst h; rw [Nat.add_zero] at hl; rw [hl] at hLi; cases hLi
              · exact h
            refine ⟨?_, ?_⟩
            · rw [hA, hC]
              exact upd_in hw (by rw [hlen2, hlen2])
            · rw [rng_congr (hC g.1), hafter (i + d) r hr (by omega) hl hw, h2]
          · rw [hord k (i + d) q r h4 hr h3 h6 hw hl] at h5; cases h5
        · have eA : (stD (fun j => L j && decide (j < i + (d + 1))) rs 0 σ0)[g.1]? = (stD (fun j => L j && decide (j < i + d)) rs 0 σ0)[g.1]? := by rw [hA]; exact upd_other hw
          have eC : (stD (fun j => decide (j < i + (d + 1))) rs 0 σ0)[g.1]? = (stD (fun j => decide (j < i + d)) rs 0 σ0)[g.1]? := by rw [hC]; exact upd_other hw
          rcases ih (by omega) with ⟨h1, h2⟩ | ⟨h1, k, q, h2, h3, h4, h5, h6⟩
          · exact .inl ⟨by rw [eA, eC]; exact h1, by rw [rng_congr eC]; exact h2⟩
          · exact .inr ⟨by rw [rng_congr eA]; exact h1, k, q, h2, by omega, h4, h5, h6⟩
      | false =>
        have eq : (fun j => L j && decide (j < i + (d + 1))) = fun j => L j && decide (j < i + d) := by
          funext j
          by_cases h : j = i + d
          · subst h; simp [hl]
          · by_cases h2 : j < i + d
            · rw [decide_eq_true h2, decide_eq_true (show j < i + (d + 1) by omega)]
            · rw [decide_eq_false h2, decide_eq_false (show ¬ j < i + (d + 1) by omega)]
        by_cases hw : g.1 ∈ r.ws
        · right
          rw [eq]
          rcases ih (by omega) with ⟨h1, h2⟩ | ⟨h1, k, q, h2, h3, h4, h5, h6⟩
          · exact ⟨by rw [rng_congr h1]; exact h2, i + d, r, by omega, by omega, hr, hl, hw⟩
          · exact ⟨h1, k, q, h2, by omega, h4, h5, h6⟩
        · have eC : (stD (fun j => decide (j < i + (d + 1))) rs 0 σ0)[g.1]? = (stD (fun j => decide (j < i + d)) rs 0 σ0)[g.1]? := by rw [hC]; exact upd_other hw
          rw [eq]
          rcases ih (by omega) with ⟨h1, h2⟩ | ⟨h1, k, q, h2, h3, h4, h5, h6⟩
          · exact .inl ⟨by rw [eC]; exact h1, by rw [rng_congr eC]; exact h2⟩
          · exact .inr ⟨h1, k, q, h2, by omega, h4, h5, h6⟩
  have hn : i + (rs.length - i) = rs.length := by omega
  have hall : (stD L rs 0 σ0)[g.1]? = (stD (fun j => L j && decide (j < rs.length)) rs 0 σ0)[g.1]? :=
    stD_agree g.1 rs 0 σ0 fun j r hj hne => absurd (by rw [Nat.zero_add, decide_eq_true (hlt hj), Bool.and_true]) hne
  have := inv (rs.length - i) (by omega)
  rw [hn] at this
  rcases this with ⟨h1, h2⟩ | ⟨h1, _⟩
  · rw [rng_congr hall, rng_congr h1]; exact h2
  · rw [rng_congr hall]; exact h1
theorem draw_any [HasGlob] (hlen : rs.length = ops.size) (hck : check ops.toList rs [] = true) (hbk : backs ops.toList 0 = true)
    (hval : ∀ i r, rs[i]? = some r → Valid C ops i r (envD (fun j => decide (j < i)) rs 0 e0) (stD (fun j => decide (j < i)) rs 0 σ0))
    (hkeep : ∀ i r, rs[i]? = some r → Keeps r (stD (fun j => decide (j < i)) rs 0 σ0))
    (hQ : ∀ κ w a, Evo κ0 w0 σ0 κ w (stD (fun _ => true) rs 0 σ0) → SR C.n κ w (envD (fun _ => true) rs 0 e0) (stD (fun _ => true) rs 0 σ0) a → Q .normal a w) :
    ∀ (fuel : Nat) (L : Array Bool) (a : Act) (w : World), L.size = ops.size → ((List.range ops.size).filter fun i => !listed L i).length = fuel →
      (∀ j o, ops[j]? = some o → listed L j = true → ∀ e ∈ o.after.toList, Region.binds .any e = true → listed L e.on = true) →
      (∃ κ e σ, Evo κ0 w0 σ0 κ w σ ∧ SR C.n κ w e σ a ∧ (∀ t, Env.get e t = Env.get (envD (listed L) rs 0 e0) t) ∧ ∀ id : Nat, σ[id]? = (stD (listed L) rs 0 σ0)[id]?) →
      wpAny C.P .any ops Q fuel L a w := by
  obtain ⟨_, hcs⟩ := check_spec hck
  have hgetL : ∀ (L : Array Bool) (i : Nat), L.size = ops.size → i < ops.size → L.getD i true = listed L i := by
    intro L i hL hi
    simp [listed, show i < L.size by omega]
  have hready : ∀ (L : Array Bool), L.size = ops.size → ∀ i, i ∈ Region.ready .any ops L → i < ops.size ∧ listed L i = false ∧ ∀ o, ops[i]? = some o → ∀ e ∈ o.after.toList, Region.binds .any e = true → listed L e.on = true := by
    intro L hL i hi
    simp only [Region.ready, List.mem_filter, List.mem_range, Bool.and_eq_true, Bool.not_eq_true'] at hi
    obtain ⟨h1, h2, h3⟩ := hi
    rw [hgetL L i hL h1] at h2
    refine ⟨h1, h2, fun o ho e he hb => ?_⟩
    rw [ho] at h3
    simp only [Option.map_some, Option.getD_some, Array.all_eq_true'] at h3
    have := h3 e (Array.mem_toList_iff.1 he)
    rw [hb] at this
    simpa [listed] using this
  have hfinal : ∀ (L : Array Bool) (a : Act) (w : World), (∀ j, j < ops.size → listed L j = true) →
      (∃ κ e σ, Evo κ0 w0 σ0 κ w σ ∧ SR C.n κ w e σ a ∧ (∀ t, Env.get e t = Env.get (envD (listed L) rs 0 e0) t) ∧ ∀ id : Nat, σ[id]? = (stD (listed L) rs 0 σ0)[id]?) → Q .normal a w := by
    intro L a w hall ⟨κ, e, σ, hev, hs, he, hσ⟩
    have hj : ∀ j r, rs[j]? = some r → listed L (0 + j) = true := fun j r hr => by
      rw [Nat.zero_add]; exact hall j (by rw [← hlen]; exact (List.getElem?_eq_some_iff.1 hr).1)
    have he' : ∀ t, Env.get (envD (fun _ => true) rs 0 e0) t = Env.get e t := fun t => by
      rw [he t]; exact (envD_agree t rs 0 e0 fun j r hr hne => absurd (hj j r hr) (fun h => hne h)).symm
    have hσ' : ∀ id : Nat, (stD (fun _ => true) rs 0 σ0)[id]? = σ[id]? := fun id => by
      rw [hσ id]; exact (stD_agree id rs 0 σ0 fun j r hr hne => absurd (hj j r hr) (fun h => hne h)).symm
    have : stD (fun _ => true) rs 0 σ0 = σ := List.ext_getElem? hσ'
    exact hQ κ w a (this ▸ hev) (hs.same he' hσ')
  intro fuel
  induction fuel with
  | zero =>
    intro L a w hL hcnt _ hst
    have hnil := List.length_eq_zero_iff.1 hcnt
    have hall : ∀ j, j < ops.size → listed L j = true := by
      intro j hj
      cases hlj : listed L j with
      | true => rfl
      | false =>
        have : j ∈ (List.range ops.size).filter fun i => !listed L i := List.mem_filter.2 ⟨List.mem_range.2 hj, by simp [hlj]⟩
        rw [hnil] at this; simp at this
    refine ⟨?_, hfinal L a w hall hst⟩
    refine List.eq_nil_iff_forall_not_mem.2 fun i hi => ?_
    obtain ⟨h1, h2, _⟩ := hready L hL i hi
    rw [hall i h1] at h2; simp at h2
  | succ fuel ih =>
    intro L a w hL hcnt hdown hst
    refine ⟨fun hnil => ?_, fun i hi => ?_⟩
    · -- some operation is ready
      exfalso
      have : ∃ i, i < ops.size ∧ listed L i = false := by
        cases hf : (List.range ops.size).filter fun i => !listed L i with
        | nil => rw [hf] at hcnt; simp at hcnt
        | cons i r =>
          have : i ∈ (List.range ops.size).filter fun i => !listed L i := by rw [hf]; simp
          simp only [List.mem_filter, List.mem_range, Bool.not_eq_true'] at this
          exact ⟨i, this⟩
      have hmin : ∀ n i, i ≤ n → i < ops.size → listed L i = false → ∃ i, i < ops.size ∧ listed L i = false ∧ ∀ j, j < i → listed L j = true := by
        intro n
        induction n with
        | zero => intro i h0 h1 h2; exact ⟨i, h1, h2, fun j hj => by omega⟩
        | succ n ihn =>
          intro i h0 h1 h2
          by_cases h : ∃ j, j < i ∧ listed L j = false
          · obtain ⟨j, h3, h4⟩ := h; exact ihn j (by omega) (by omega) h4
          · exact ⟨i, h1, h2, fun j hj => by
              cases hlj : listed L j with
              | true => rfl
              | false => exact absurd ⟨j, hj, hlj⟩ h⟩
      obtain ⟨i0, h1, h2⟩ := this
      obtain ⟨i, h1, h2, h3⟩ := hmin i0 i0 (Nat.le_refl _) h1 h2
      have : i ∈ Region.ready .any ops L := by
        simp only [Region.ready, List.mem_filter, List.mem_range, Bool.and_eq_true, Bool.not_eq_true']
        refine ⟨h1, by rw [hgetL L i hL h1]; exact h2, ?_⟩
        rw [Array.getElem?_eq_getElem h1]
        simp only [Option.map_some, Option.getD_some, Array.all_eq_true']
        intro e he
        cases hb : Region.binds .any e with
        | false => rfl
        | true =>
          have := backs_spec hbk i ops[i] (by rw [Array.getElem?_toList]; exact Array.getElem?_eq_getElem h1) e (Array.mem_toList_iff.2 he) hb
          simpa [listed] using h3 e.on (by omega)
      rw [hnil] at this; simp at this
    · obtain ⟨h1, h2, h3⟩ := hready L hL i hi
      have hri : i < rs.length := by omega
      have hr : rs[i]? = some rs[i] := List.getElem?_eq_getElem hri
      generalize rs[i] = r at hr
      obtain ⟨κ, e, σ, hev, hs, he, hσ⟩ := hst
      have hoi : ops[i]? = some ops[i] := Array.getElem?_eq_getElem h1
      -- what stands free
      have hless : ∀ j p, rs[j]? = some p → j < i → listed L j = false → free p r = true := by
        intro j p hp hj hl
        rcases hcs i ops[i] r (by rw [Array.getElem?_toList]; exact hoi) hr j p (by simpa using hp) (by simpa using hj) with h | h | h
        · exfalso
          simp only [edge, List.any_eq_true, Bool.and_eq_true, Nat.beq_eq] at h
          obtain ⟨ed, hm, rfl, hb⟩ := h
          rw [h3 ops[i] hoi ed hm hb] at hl; simp at hl
        · exact h
        · exfalso
          simp only [via1, List.any_eq_true, Bool.and_eq_true] at h
          obtain ⟨ed, hm, hb, h⟩ := h
          split at h
          · rename_i q hq
            simp only [edge, List.any_eq_true, Bool.and_eq_true, Nat.beq_eq] at h
            obtain ⟨ed2, hm2, rfl, hb2⟩ := h
            rw [Array.getElem?_toList] at hq
            rw [hdown ed.on q hq (h3 ops[i] hoi ed hm hb) ed2 hm2 hb2] at hl; simp at hl
          · simp at h
      have hmore : ∀ j p, rs[j]? = some p → i < j → listed L j = true → free r p = true := by
        intro j p hp hj hl
        have hjo : j < ops.size := by rw [← hlen]; exact (List.getElem?_eq_some_iff.1 hp).1
        rcases hcs j ops[j] p (by rw [Array.getElem?_toList]; exact Array.getElem?_eq_getElem hjo) hp i r (by simpa using hr) (by simpa using hj) with h | h | h
        · exfalso
          simp only [edge, List.any_eq_true, Bool.and_eq_true, Nat.beq_eq] at h
          obtain ⟨ed, hm, rfl, hb⟩ := h
          rw [hdown j ops[j] (Array.getElem?_eq_getElem hjo) hl ed hm hb] at h2; simp at h2
        · exact h
        · exfalso
          simp only [via1, List.any_eq_true, Bool.and_eq_true] at h
          obtain ⟨ed, hm, hb, h⟩ := h
          split at h
          · rename_i q hq
            simp only [edge, List.any_eq_true, Bool.and_eq_true, Nat.beq_eq] at h
            obtain ⟨ed2, hm2, rfl, hb2⟩ := h
            rw [Array.getElem?_toList] at hq
            rw [hdown ed.on q hq (hdown j ops[j] (Array.getElem?_eq_getElem hjo) hl ed hm hb) ed2 hm2 hb2] at h2; simp at h2
          · simp at h
      have hdiff : ∀ j, listed L (0 + j) ≠ decide (0 + j < i) → (j < i ∧ listed L j = false) ∨ (i < j ∧ listed L j = true) := by
        intro j hne
        rw [Nat.zero_add] at hne
        by_cases hj : j < i
        · left; refine ⟨hj, ?_⟩
          cases hl : listed L j with
          | false => rfl
          | true => rw [hl] at hne; simp [hj] at hne
        · cases hl : listed L j with
          | false => rw [hl] at hne; simp [hj] at hne
          | true =>
            right; refine ⟨?_, rfl⟩
            have : j ≠ i := by intro e; subst e; rw [hl] at h2; simp at h2
            omega
      have hT : ∀ t ∈ r.T, Env.get e t = Env.get (envD (fun j => decide (j < i)) rs 0 e0) t := by
        intro t ht
        rw [he t]
        refine envD_agree t rs 0 e0 fun j p hp hne hd => ?_
        rcases hdiff j hne with ⟨hj, hl⟩ | ⟨hj, hl⟩
        · have := hless j p hp hj hl
          simp only [free, Bool.and_eq_true] at this
          have := this.1.1.1
          rw [hd] at this; simp [notIn] at this; exact this ht
        · have := hmore j p hp hj hl
          simp only [free, Bool.and_eq_true] at this
          have := this.1.1.2
          rw [hd] at this; simp [notIn] at this; exact this ht
      have dis : ∀ {a b : List Nat} {x : Nat}, disjoint a b = true → x ∈ a → x ∉ b := by
        intro a b x h hx hb
        simp only [disjoint, List.all_eq_true] at h
        have := h x hx; simp at this; exact this hb
      have hF : ∀ id, id ∈ r.F ∨ id ∈ r.ws → σ[id]? = (stD (fun j => decide (j < i)) rs 0 σ0)[id]? := by
        intro id hid
        rw [hσ id]
        refine stD_agree id rs 0 σ0 fun j p hp hne hw => ?_
        rcases hdiff j hne with ⟨hj, hl⟩ | ⟨hj, hl⟩
        · have := hless j p hp hj hl
          simp only [free, Bool.and_eq_true] at this
          rcases hid with h | h
          · exact dis this.2.1.1 hw h
          · exact dis this.2.1.2 hw h
        · have := hmore j p hp hj hl
          simp only [free, Bool.and_eq_true] at this
          rcases hid with h | h
          · exact dis this.2.2.1 hw h
          · exact dis this.2.1.2 h hw
      have hsz : σ.length = (stD (fun j => decide (j < i)) rs 0 σ0).length := by
        rw [stD_length]
        have : σ = stD (listed L) rs 0 σ0 := List.ext_getElem? hσ
        rw [this, stD_length]
      have hGr : ∀ g ∈ r.G, rng σ g = rng (stD (fun j => decide (j < i)) rs 0 σ0) g := by
        intro g hg
        rw [rng_congr (hσ g.1)]
        refine rng_agree h2 rs σ0 hri (fun j p hp hj hl hw => ?_) (fun j p hp hj hl hw => ?_) (fun k j q p hq hp hkj hwq hwp hl => ?_)
        · have := hless j p hp hj hl
          simp only [free, gFree, Bool.and_eq_true, List.all_eq_true] at this
          have := this.2.2.2.2 g hg
          simp at this; exact this hw
        · have := hmore j p hp hj hl
          simp only [free, gFree, Bool.and_eq_true, List.all_eq_true] at this
          have := this.2.2.2.1 g hg
          simp only [Bool.or_eq_true, Bool.not_eq_true', List.any_eq_true] at this
          rcases this with h | ⟨g', h3, h4⟩
          · exfalso
            have : p.ws.elem g.1 = true := by simpa using hw
            rw [this] at h; cases h
          · have := eqG_sound h4
            subst this
            exact hkeep j p hp g h3
        · have hjo : j < ops.size := by rw [← hlen]; exact (List.getElem?_eq_some_iff.1 hp).1
          rcases hcs j ops[j] p (by rw [Array.getElem?_toList]; exact Array.getElem?_eq_getElem hjo) hp k q (by simpa using hq) (by simpa using hkj) with h | h | h
          · simp only [edge, List.any_eq_true, Bool.and_eq_true, Nat.beq_eq] at h
            obtain ⟨ed, hm, rfl, hb⟩ := h
            exact hdown j ops[j] (Array.getElem?_eq_getElem hjo) hl ed hm hb
          · exfalso
            simp only [free, Bool.and_eq_true] at h
            exact dis h.2.1.2 hwq hwp
          · simp only [via1, List.any_eq_true, Bool.and_eq_true] at h
            obtain ⟨ed, hm, hb, h⟩ := h
            split at h
            · rename_i q' hq'
              simp only [edge, List.any_eq_true, Bool.and_eq_true, Nat.beq_eq] at h
              obtain ⟨ed2, hm2, rfl, hb2⟩ := h
              rw [Array.getElem?_toList] at hq'
              exact hdown ed.on q' hq' (hdown j ops[j] (Array.getElem?_eq_getElem hjo) hl ed hm hb) ed2 hm2 hb2
            · simp at h
      refine hval i r hr e σ hT hF hsz hGr Q _ κ w a hs fun κ' w' a' hev' hs' => ?_
      have hset : ∀ j, listed (L.setIfInBounds i true) j = if i = j then true else listed L j := by
        intro j
        simp only [listed]
        by_cases h : i = j
        · subst h; simp [show i < L.size by omega]
        · simp [h, Array.getElem?_setIfInBounds_ne h]
      refine ih _ a' w' (by simpa using hL) ?_ ?_ ⟨κ', _, _, hev.trans hev', hs', fun t => ?_, fun id => ?_⟩
      · have key : ∀ (l : List Nat), l.Nodup → i ∈ l → (l.filter fun j => !listed L j).length = (l.filter fun j => !listed (L.setIfInBounds i true) j).length + 1 := by
          intro l
          induction l with
          | nil => intro _ h; simp at h
          | cons x l ihl =>
            intro hnd hm
            rw [List.nodup_cons] at hnd
            by_cases hx : i = x
            · subst hx
              have hsame : (l.filter fun j => !listed L j) = l.filter fun j => !listed (L.setIfInBounds i true) j := by
                apply List.filter_congr
                intro j hj
                rw [hset, if_neg (by intro e; subst e; exact hnd.1 hj)]
              simp only [List.filter_cons, h2, Bool.not_false, if_true, hset, Bool.not_true, Bool.false_eq_true, if_false, List.length_cons]
              rw [hsame]
              simp only [hset]
            · have hm' : i ∈ l := (List.mem_cons.1 hm).resolve_left hx
              simp only [List.filter_cons, hset, if_neg hx]
              have := ihl hnd.2 hm'
              simp only [hset] at this
              split
              · simp only [List.length_cons]; rw [this]
              · exact this
        have := key (List.range ops.size) List.nodup_range (List.mem_range.2 h1)
        omega
      · intro j o ho hl ed hm hb
        rw [hset] at hl ⊢
        split
        · rfl
        · split at hl
          · rename_i hij; subst hij; exact h3 o ho ed hm hb
          · exact hdown j o ho hl ed hm hb
      · simp only [Rec.env, put_get]
        rw [envD_more hset h2 rs 0 e0 (Nat.zero_le _) (by simpa using hr) fun j p hp hgt hl => ?_, ← he t]
        have := hmore j p hp (by omega) (by simpa using hl)
        simp only [free, Bool.and_eq_true] at this
        have := this.1.2
        revert this
        cases r.dst with
        | none => cases p.dst <;> simp [otherDst]
        | some x =>
          cases p.dst with
          | none => simp [otherDst]
          | some y =>
            by_cases hxy : x = y
            · subst hxy
              intro h1
              rw [show otherDst (some x) (some x) = false from by simp [otherDst, Nat.beq_refl]] at h1
              simp at h1
            · intro h1
              have h2 : Nat.beq y x = false := by
                cases h3 : Nat.beq y x with
                | false => rfl
                | true => exact absurd (Nat.eq_of_beq_eq_true h3).symm hxy
              simp [otherDst, h2]
      · rw [stD_more hset h2 rs 0 σ0 (Nat.zero_le _) (by simpa using hr) (fun j p hp hgt hl => ?_) (fun _ _ _ _ _ => trivial)]
        · refine upd_congr ?_ (hσ id)
          rw [stD_length]
          have : σ = stD (listed L) rs 0 σ0 := List.ext_getElem? hσ
          rw [this, stD_length]
        · have := hmore j p hp (by omega) (by simpa using hl)
          simp only [free, Bool.and_eq_true] at this
          exact this.2.1.2
end
end Go.Am
/- The abstract machine: a region that draws its order, operation by operation. -/
namespace Go.Am
def guardTmps (all : List Oper) (o : Oper) : List Nat :=
  match o.guard with
  | none => []
  | some (j, _) => match all[j]? with
    | some p => match p.dst with
      | some t => [t]
      | none => []
    | none => []
def reads (all : List Oper) (o : Oper) : List Nat := guardTmps all o ++ temps o.op.operands.toList
theorem guardOk_congr {e e2 : Env} {all : List Oper} {o : Oper} (h : ∀ t ∈ guardTmps all o, Env.get e2 t = Env.get e t) : guardOk e2 all o = guardOk e all o := by
  unfold guardOk
  unfold guardTmps at h
  cases hg : o.guard with
  | none => rfl
  | some p =>
    obtain ⟨j, want⟩ := p
    simp only [hg] at h ⊢
    cases hp : all[j]? with
    | none => rfl
    | some q =>
    simp only [hp] at h ⊢
    cases hd : q.dst with
    | none => rfl
    | some t =>
    simp only [hd] at h ⊢
    rw [h t (by simp)]
theorem inFoot_congr {F : List Nat} {σ σ2 : St} (h : ∀ id ∈ F, σ2[id]? = σ[id]?) : inFoot F σ2 = inFoot F σ := by
  funext id
  unfold inFoot
  cases hF : F.elem id with
  | true => simp only [cond_true]; exact h id (by simpa using hF)
  | false => rfl
section
variable {C : Cx} {all : List Oper} {k : Nat} {e : Env} {σ : St} {o : Oper}
theorem Valid.skip [HasGlob] (ho : all.toArray[k]? = some o) (hg : guardOk e all o = some false) (hd : dstOk C.n o = true) : Valid C all.toArray k ⟨o.dst, .undef, [], guardTmps all o, [], [], []⟩ e σ := by
  intro e2 σ2 hT hF hlen hGr Q K2 κ w a hs hK
  have hg2 : guardOk e2 all o = some false := by rw [guardOk_congr hT]; exact hg
  unfold wpOp
  simp only [ho, guard_sound (ops := all.toArray) hs (by simpa using hg2), Bool.false_eq_true, if_false]
  exact hK κ w _ .refl (hs.put ⟨fun _ _ h => h, fun _ _ _ => rfl, fun _ _ => rfl, fun _ _ _ _ _ h => h⟩ (fun _ h => h) hs.rs .undef rfl (dstOk_spec hd))
theorem Valid.op [HasGlob] (hT : C.T.fits C.P) {nid : Nat} (ho : all.toArray[k]? = some o) (hg : guardOk e all o = some true) (hd : dstOk C.n o = true)
    {v : V} {u : Upd} (hn : makes C o = true → σ[nid]? = some .dead ∧ nid ∈ u.map (·.1)) (hop : aop C nid e σ o = some (v, u)) :
    Valid C all.toArray k ⟨o.dst, v, u, reads all o, foot (opEnv e o) o, [], []⟩ e σ := by
  intro e2 σ2 hTm hF hlen hGr Q K2 κ w a hs hK
  have hg2 : guardOk e2 all o = some true := by rw [guardOk_congr fun t ht => hTm t (by simp [reads, ht])]; exact hg
  have he : opEnv e2 o = opEnv e o := slots_congr fun t ht => hTm t (by simp [reads, ht])
  have hop2 : aop C nid e2 σ2 o = some (v, u) := by
    unfold aop at hop ⊢
    rw [he, inFoot_congr fun id hid => hF id (.inl hid)]; exact hop
  unfold wpOp
  simp only [ho, guard_sound (ops := all.toArray) hs (by simpa using hg2), if_true]
  left
  obtain ⟨x, w', κ', hrun, hv, hu, hev, hR⟩ := aop_sound hT hs (fun hm => by rw [hF nid (.inr (hn hm).2)]; exact (hn hm).1) hop2
  have hs' : SR C.n κ' w' (Env.put e2 o.dst v) (σ2.upd u) (a.put o.dst x) := hs.put hev.stays hev.live hR hv hu (dstOk_spec hd)
  unfold Oper.wp
  rcases hrun with hrun | ⟨hrun, rfl⟩
  · rw [hrun]; exact hK κ' w' _ hev hs'
  · rw [hrun]; exact hK κ' w' _ hev hs'
/-- what a call reads, and who is called -/
theorem calleeOf_sub [HasGlob] {e e2 : Env} (h : Sub e e2) {r : FuncId × List V} (hc : calleeOf e o = some r) : calleeOf e2 o = some r := by
  have hev : ∀ x v, ev e x = some v → ev e2 x = some v := by
    intro x v hx
    cases x <;> first | exact h _ _ hx | exact hx
  have hall : ∀ (xs : List Operand) (vs : List V), evAll e xs = some vs → evAll e2 xs = some vs := by
    intro xs
    induction xs with
    | nil => intro vs h; exact h
    | cons x xs ih =>
      intro vs h1
      simp only [evAll] at h1 ⊢
      cases hx : ev e x with
      | none => simp [hx] at h1
      | some v =>
      cases hr : evAll e xs with
      | none => simp [hx, hr] at h1
      | some us =>
      simp only [hx, hr] at h1
      rw [hev x v hx, ih us hr]; exact h1
  unfold calleeOf at hc ⊢
  split at hc
  case h_2 => simp at hc
  split at hc
  case h_2 => simp at hc
  rename_i h1 h2
  rw [hev _ _ h1, hall _ _ h2]; exact hc
theorem Valid.call [HasGlob] (ho : all.toArray[k]? = some o) (hg : guardOk e all o = some true) (hd : dstOk C.n o = true) {f : FuncId} {vs vs' : List V} (hc : calleeOf (opEnv e o) o = some (f, vs))
    (hsn : snapVs (inFoot (foot (opEnv e o) o) σ) vs = some vs') (hni : vs'.all noIds = true) {r : V} (hS : Comp C.P f vs' r) (hr : noIds r = true) :
    Valid C all.toArray k ⟨o.dst, r, [], reads all o, foot (opEnv e o) o, [], []⟩ e σ := by
  intro e2 σ2 hTm hF hlen hGr Q K2 κ w a hs hK
  have hg2 : guardOk e2 all o = some true := by rw [guardOk_congr fun t ht => hTm t (by simp [reads, ht])]; exact hg
  have he : opEnv e2 o = opEnv e o := slots_congr fun t ht => hTm t (by simp [reads, ht])
  have hc2 : calleeOf e2 o = some (f, vs) := calleeOf_sub (slots_sub e2 _) (by rw [show slots (temps o.op.operands.toList) e2 = opEnv e2 o from rfl, he]; exact hc)
  rw [← inFoot_congr (σ2 := σ2) fun id hid => hF id (.inl hid)] at hsn
  unfold wpOp
  simp only [ho, guard_sound (ops := all.toArray) hs (by simpa using hg2), if_true]
  left
  obtain ⟨xs, hrun, hxs⟩ := callee_sound hs hc2 hS.1
  unfold Oper.wp
  rw [hrun]
  simp only [Oper.upon]
  have hxs' := snapVs_sound hs.rs (inFoot_sees _ _) hsn hxs
  have hbare : Stays κ w κ.bare w (fun _ => false) := ⟨fun _ _ h => h, fun _ _ _ => rfl, fun _ h => by simp at h, fun _ _ _ _ h => by simp at h⟩
  have hall : ∀ v ∈ vs', v.under (fun _ => false) = true := fun v hv => List.all_eq_true.1 hni v hv
  have hxs2 := hxs'.stays hbare hall
  have hal : ∀ id, alive ([] : St) id = false := fun id => by simp [alive]
  have hxs3 : RVs κ.bare w (alive []) vs' xs := by rw [show alive ([] : St) = fun _ => false from funext hal]; exact hxs2
  refine (hS.2 κ.bare w xs hs.rs.bare hxs3).mono fun en w' hen => ?_
  obtain ⟨x, r', κ1, σ1, rfl, ⟨rfl, rfl⟩, hrv, hru, hev, hR1⟩ := hen
  let κ' : K := { κ with S := κ1.S }
  have hown : ∀ b, ¬ own κ.bare [] b := fun b ⟨id, o, h1, _⟩ => by simp at h1
  obtain ⟨g1, g2⟩ := RS.fresh (κ' := κ') (w' := w') hs.rs hev.S rfl rfl
    (fun b o h => by
      rcases hev.fresh b o h with h1 | h1 | h1
      · exact .inl h1
      · exact absurd h1 (hown b)
      · exact .inr ⟨h1, hR1.inside b o h⟩)
    (fun b hb => hev.frame b hb (hown b)) hev.size hev.os hev.tape hev.output
  have hrv' : RV κ' w' r' x := RV.stays (κ := κ1) (κ' := κ') (w := w') (w' := w') (L := fun _ => false) ⟨fun _ _ h => h, fun _ _ _ => rfl, fun _ h => by simp at h, fun _ _ _ _ h => by simp at h⟩ hrv hr
  exact hK κ' w' _ g1 (hs.put g1.stays g1.live g2 hrv' (V.under_mono (fun _ h => by simp at h) hr) (dstOk_spec hd))
end
/-! traces -/
inductive Tr [HasGlob] (C : Cx) (all : List Oper) : Nat → Env → St → List Rec → Env → St → Prop
  | nil (k e σ) : Tr C all k e σ [] e σ
  | cons {k e σ rs e' σ'} (r : Rec) (h : Valid C all.toArray k r e σ) (hk : Keeps r σ) (t : Tr C all (k + 1) (r.env e) (r.st σ) rs e' σ') : Tr C all k e σ (r :: rs) e' σ'
theorem envD_none {L : Nat → Bool} : ∀ {rs : List Rec} {k : Nat} {e : Env}, (∀ j, k ≤ j → L j = false) → envD L rs k e = e
  | [], _, _, _ => rfl
  | r :: rs, k, e, h => by
    simp only [envD, h k (Nat.le_refl k), cond_false]
    exact envD_none fun j hj => h j (by omega)
theorem stD_none {L : Nat → Bool} : ∀ {rs : List Rec} {k : Nat} {σ : St}, (∀ j, k ≤ j → L j = false) → stD L rs k σ = σ
  | [], _, _, _ => rfl
  | r :: rs, k, σ, h => by
    simp only [stD, h k (Nat.le_refl k), cond_false]
    exact stD_none fun j hj => h j (by omega)
theorem Tr.spec [HasGlob] {C : Cx} {all : List Oper} {k : Nat} {e : Env} {σ : St} {rs : List Rec} {e' : Env} {σ' : St} (h : Tr C all k e σ rs e' σ') :
    e' = envD (fun _ => true) rs k e ∧ σ' = stD (fun _ => true) rs k σ ∧
    ∀ i r, rs[i]? = some r → Valid C all.toArray (k + i) r (envD (fun j => decide (j < k + i)) rs k e) (stD (fun j => decide (j < k + i)) rs k σ) ∧ Keeps r (stD (fun j => decide (j < k + i)) rs k σ) := by
  induction h with
  | nil => exact ⟨rfl, rfl, fun i r h => by simp at h⟩
  | @cons k e σ rs e' σ' r h hk t ih =>
    refine ⟨ih.1, ih.2.1, fun i r' hi => ?_⟩
    cases i with
    | zero =>
      simp at hi; subst hi
      rw [envD_none (fun j hj => by simp; omega), stD_none (fun j hj => by simp; omega)]
      exact ⟨h, hk⟩
    | succ i =>
      have := ih.2.2 i r' (by simpa using hi)
      simp only [envD, stD]
      rw [show decide (k < k + (i + 1)) = true from by simp]
      rw [show k + (i + 1) = k + 1 + i from by omega]
      exact this
/-- what has been done so far, as far as orders go -/
def Rec.key (r : Rec) : Rec := ⟨r.dst, .undef, r.u.map fun p => (p.1, .dead), r.T, r.F, r.G, r.K⟩
theorem key_ws (r : Rec) : r.key.ws = r.ws := by simp [Rec.key, Rec.ws, Function.comp_def]
theorem free_key (p r : Rec) : free p.key r.key = free p r := by
  simp only [free, gFree, key_ws]; rfl
theorem checkOne_key {all : List Oper} {o : Oper} {r : Rec} : ∀ (ps : List Rec) (i : Nat), checkOne all o r.key (ps.map Rec.key) i = checkOne all o r ps i
  | [], _ => rfl
  | p :: ps, i => by simp only [List.map_cons, checkOne, free_key, checkOne_key ps]
theorem checkA_key (all : List Oper) : ∀ (os : List Oper) (rs ps : List Rec), checkA all os (rs.map Rec.key) (ps.map Rec.key) = checkA all os rs ps
  | [], [], _ => rfl
  | [], _ :: _, _ => rfl
  | _ :: _, [], _ => rfl
  | o :: os, r :: rs, ps => by
    simp only [List.map_cons, checkA, checkOne_key]
    rw [show ps.map Rec.key ++ [r.key] = (ps ++ [r]).map Rec.key from by simp, checkA_key all os rs]
theorem check_key (os : List Oper) (rs ps : List Rec) : check os (rs.map Rec.key) (ps.map Rec.key) = check os rs ps := checkA_key os os rs ps
def DL [HasGlob] (C : Cx) (all l : List Oper) (k : Nat) (e : Env) (σ : St) (acc : List Rec) (Q : Env → St → Prop) : Prop :=
  (∀ j o, l[j]? = some o → all[k + j]? = some o) → ∃ rs e' σ', Tr C all k e σ rs e' σ' ∧ check all (acc.reverse ++ rs.map Rec.key) [] = true ∧ ∃ e2, Sub e2 e' ∧ Q e2 σ'
def countMakes (C : Cx) : List Oper → Nat
  | [] => 0
  | o :: r => bif makes C o then countMakes C r + 1 else countMakes C r
def deads : Nat → List Ob
  | 0 => []
  | n + 1 => .dead :: deads n
def fdead : St → Nat → Option Nat
  | [], _ => none
  | .dead :: _, k => some k
  | _ :: r, k => fdead r (k + 1)
theorem fdead_spec : ∀ {σ : St} {k n : Nat}, fdead σ k = some n → k ≤ n ∧ σ[n - k]? = some .dead
  | [], _, _, h => by simp [fdead] at h
  | o :: r, k, n, h => by
    cases o with
    | dead => simp only [fdead, Option.some.injEq] at h; subst h; exact ⟨Nat.le_refl _, by simp⟩
    | _ =>
      simp only [fdead] at h
      obtain ⟨h1, h2⟩ := fdead_spec h
      exact ⟨by omega, by rw [show n - k = (n - (k + 1)) + 1 from by omega]; simpa using h2⟩
section
variable {C : Cx} {all l : List Oper} {k : Nat} {e : Env} {σ : St} {o : Oper} {acc : List Rec} {Q : Env → St → Prop}
theorem DL.cons [HasGlob] {r r' : Rec} (hr : r.key = r') (hv : Valid C all.toArray k r e σ) (h : DL C all l (k + 1) (r.env e) (r.st σ) (r' :: acc) Q) (hk : Keeps r σ := by exact Keeps.none rfl) : DL C all (o :: l) k e σ acc Q := by
  intro hall
  obtain ⟨rs, e', σ', h1, h2, h3⟩ := h fun j p hj => by have := hall (j + 1) p (by simpa using hj); rw [show k + 1 + j = k + (j + 1) from by omega]; exact this
  exact ⟨r :: rs, e', σ', .cons r hv hk h1, by simpa [hr] using h2, h3⟩
theorem DL.nil [HasGlob] (ls : List Nat) {e' : Env} {σ' : St} (hck : check all acc.reverse [] = true) (hp : pick ls e = some e') (hσ : fS σ = some σ') (h : Q e' σ') : DL C all [] k e σ acc Q := by
  rw [fS_eq] at hσ; injection hσ with hσ; subst hσ
  exact fun _ => ⟨[], e, σ, .nil _ _ _, by simpa using hck, e', pick_sub hp, h⟩
theorem DL.skip [HasGlob] (hg : guardOk e all o = some false) (hd : dstOk C.n o = true) {T : List Nat} (hT : fL (guardTmps all o) = some T)
    (h : DL C all l (k + 1) (Env.put e o.dst .undef) σ (⟨o.dst, .undef, [], T, [], [], []⟩ :: acc) Q) : DL C all (o :: l) k e σ acc Q := by
  rw [fL_eq] at hT; injection hT with hT; subst hT
  intro hall
  exact (DL.cons (r := ⟨o.dst, .undef, [], guardTmps all o, [], [], []⟩) rfl (Valid.skip (head_of hall) hg hd) h) hall
theorem DL.q [HasGlob] (hT : C.T.fits C.P) (hg : guardOk e all o = some true) (hd : dstOk C.n o = true) (hm : makes C o = false)
    {v v' : V} (hop : aop C 0 e σ o = some (v, [])) (hv : fV v = some v') {T F : List Nat} (hT' : fL (reads all o) = some T) (hF' : fL (foot (opEnv e o) o) = some F)
    (h : DL C all l (k + 1) (Env.put e o.dst v') σ (⟨o.dst, .undef, [], T, F, [], []⟩ :: acc) Q) : DL C all (o :: l) k e σ acc Q := by
  rw [fV_eq] at hv; injection hv with hv; subst hv
  rw [fL_eq] at hT' hF'; injection hT' with hT'; injection hF' with hF'; subst hT'; subst hF'
  intro hall
  exact (DL.cons (r := ⟨o.dst, v, [], reads all o, foot (opEnv e o) o, [], []⟩) rfl (Valid.op hT (head_of hall) hg hd (fun h => by rw [hm] at h; simp at h) hop) h) hall
theorem DL.w [HasGlob] (hT : C.T.fits C.P) (hg : guardOk e all o = some true) (hd : dstOk C.n o = true) (hm : makes C o = false)
    {v v' : V} {u : Upd} {σ' : St} (hop : aop C 0 e σ o = some (v, u)) (hv : fV v = some v') (hσ : fS (σ.upd u) = some σ') {T F ws : List Nat} (hT' : fL (reads all o) = some T) (hF' : fL (foot (opEnv e o) o) = some F) (hw : fL (u.map (·.1)) = some ws)
    (h : DL C all l (k + 1) (Env.put e o.dst v') σ' (⟨o.dst, .undef, ws.map fun i => (i, .dead), T, F, [], []⟩ :: acc) Q) : DL C all (o :: l) k e σ acc Q := by
  rw [fV_eq] at hv; injection hv with hv; subst hv
  rw [fS_eq] at hσ; injection hσ with hσ; subst hσ
  rw [fL_eq] at hT' hF' hw; injection hT' with hT'; injection hF' with hF'; injection hw with hw; subst hT'; subst hF'; subst hw
  intro hall
  exact (DL.cons (r := ⟨o.dst, v, u, reads all o, foot (opEnv e o) o, [], []⟩) (by simp [Rec.key, Function.comp_def]) (Valid.op hT (head_of hall) hg hd (fun h => by rw [hm] at h; simp at h) hop) h) hall
theorem DL.m [HasGlob] (hT : C.T.fits C.P) (hg : guardOk e all o = some true) (hd : dstOk C.n o = true) {nid : Nat} (hn : fdead σ 0 = some nid)
    {v v' : V} {u : Upd} {σ' : St} (hop : aop C nid e σ o = some (v, u)) (hv : fV v = some v') (hσ : fS (σ.upd u) = some σ') {T F ws : List Nat} (hT' : fL (reads all o) = some T) (hF' : fL (foot (opEnv e o) o) = some F) (hw : fL (u.map (·.1)) = some ws)
    (hin : ws.elem nid = true)
    (h : DL C all l (k + 1) (Env.put e o.dst v') σ' (⟨o.dst, .undef, ws.map fun i => (i, .dead), T, F, [], []⟩ :: acc) Q) : DL C all (o :: l) k e σ acc Q := by
  rw [fV_eq] at hv; injection hv with hv; subst hv
  rw [fS_eq] at hσ; injection hσ with hσ; subst hσ
  rw [fL_eq] at hT' hF' hw; injection hT' with hT'; injection hF' with hF'; injection hw with hw; subst hT'; subst hF'; subst hw
  have hn' := fdead_spec hn
  intro hall
  exact (DL.cons (r := ⟨o.dst, v, u, reads all o, foot (opEnv e o) o, [], []⟩) (by simp [Rec.key, Function.comp_def]) (Valid.op hT (head_of hall) hg hd (fun _ => ⟨by simpa using hn'.2, by simpa using hin⟩) hop) h) hall
theorem DL.c [HasGlob] (hg : guardOk e all o = some true) (hd : dstOk C.n o = true) {f : FuncId} {vs vs' : List V} {r : V} (hc : calleeOf (opEnv e o) o = some (f, vs)) (hsn : snapVs (inFoot (foot (opEnv e o) o) σ) vs = some vs')
    (hni : vs'.all noIds = true) (hS : Comp C.P f vs' r) (hr : noIds r = true) {T F : List Nat} (hT' : fL (reads all o) = some T) (hF' : fL (foot (opEnv e o) o) = some F)
    (h : DL C all l (k + 1) (Env.put e o.dst r) σ (⟨o.dst, .undef, [], T, F, [], []⟩ :: acc) Q) : DL C all (o :: l) k e σ acc Q := by
  rw [fL_eq] at hT' hF'; injection hT' with hT'; injection hF' with hF'; subst hT'; subst hF'
  intro hall
  exact (DL.cons (r := ⟨o.dst, r, [], reads all o, foot (opEnv e o) o, [], []⟩) rfl (Valid.call (head_of hall) hg hd hc hsn hni hS hr) h) hall
end
theorem SR.rooms [HasGlob] {N κ w e a} : ∀ (m : Nat) {σ : St}, SR N κ w e σ a → SR N κ w e (σ ++ deads m) a ∧ Evo κ w σ κ w (σ ++ deads m)
  | 0, σ, h => by simp only [deads, List.append_nil]; exact ⟨h, .refl⟩
  | m + 1, σ, h => by
    obtain ⟨h1, h2⟩ := SR.rooms m h.room
    rw [show σ ++ deads (m + 1) = (σ ++ [.dead]) ++ deads m from by simp [deads]]
    exact ⟨h1, (Evo.room (κ := κ) (w := w) (σ := σ)).trans h2⟩
theorem SR.drawn [HasGlob] {N κ w e σ a} (h : SR N κ w e σ a) : SR N κ { w with drawn := w.drawn + 1 } e σ a ∧ Evo κ w σ κ { w with drawn := w.drawn + 1 } σ := by
  obtain ⟨g1, g2⟩ := RS.fresh (κ' := κ) (w' := { w with drawn := w.drawn + 1 }) h.rs (fun _ _ h => h) rfl rfl (fun b o h => .inl h) (fun b _ => rfl) (Nat.le_refl _) rfl rfl rfl
  exact ⟨⟨fun t v ht => by obtain ⟨x, h1, h2, h3⟩ := h.env t v ht; exact ⟨x, h1, h2.stays g1.stays h3, h3⟩, g2, h.defers, h.size⟩, g1⟩
theorem W.draw [HasGlob] {C : Cx} {all : List Oper} {e : Env} {σ σ1 : St} {id : Nat} {Q : Ex → Env → St → Prop} (hm : C.P.follows .mixedOrders = true) (hbk : backs all 0 = true)
    (hσ : fS (σ ++ deads (countMakes C all)) = some σ1) (h : DL C all all 0 e σ1 [] fun e' σ' => Q .normal e' σ') : W C (.region id all.toArray true) e σ Q := by
  rw [fS_eq] at hσ; injection hσ with hσ; subst hσ
  intro κ w a hs
  refine wp_region_any hm ?_
  obtain ⟨hs1, hev1⟩ := hs.drawn
  obtain ⟨hs2, hev2⟩ := hs1.rooms (countMakes C all)
  obtain ⟨rs, e', σ', hTr, hck, e2, hsub, hQ⟩ := h fun j o hj => by simpa using hj
  obtain ⟨he', hσ', hval⟩ := hTr.spec
  have hck' : check all rs [] = true := by
    rw [← check_key all rs []]; simpa using hck
  have hlen := (check_spec hck').1
  have hli : ∀ j, listed (Array.replicate all.toArray.size false) j = false := by
    intro j
    simp only [listed, Array.getD_eq_getD_getElem?, Array.getElem?_replicate]
    split <;> rfl
  refine draw_any (C := C) (ops := all.toArray) (rs := rs) (e0 := e) (σ0 := σ ++ deads (countMakes C all)) (κ0 := κ) (w0 := { w with drawn := w.drawn + 1 })
    (by simpa using hlen) (by simpa using hck') (by simpa using hbk) (fun i r hi => by have := (hval i r hi).1; simpa using this) (fun i r hi => by have := (hval i r hi).2; simpa using this) ?_ _ _ _ _ (by simp) ?_ ?_ ?_
  · intro κ' w' a' hev hs'
    rw [← he', ← hσ'] at hs'
    rw [← hσ'] at hev
    exact ⟨.normal, e2, σ', κ', rfl, hQ, hev1.trans (hev2.trans hev), hs'.sub hsub⟩
  · rw [List.filter_eq_self.2 (fun i _ => by rw [hli]; rfl)]; simp
  · intro j o _ hl; rw [hli] at hl; simp at hl
  · exact ⟨κ, e, _, .refl, hs2, fun t => by rw [envD_none fun j _ => hli j], fun id => by rw [stD_none fun j _ => hli j]⟩
end Go.Am
/- The abstract machine: walking on: a Boolean value that is split; a code's ends. -/
namespace Go.Am
/-- does an operation compare? -/
def isCmp (o : Oper) : Bool :=
  match o.op with
  | .binOp .eql _ _ _ _ | .binOp .neq _ _ _ _ | .binOp .lss _ _ _ _ | .binOp .leq _ _ _ _ | .binOp .gtr _ _ _ _ | .binOp .geq _ _ _ _ => true
  | _ => false
def ldead : St → Nat → Option Nat → Option Nat
  | [], _, r => r
  | .dead :: l, k, _ => ldead l (k + 1) (some k)
  | _ :: l, k, r => ldead l (k + 1) r
theorem ldead_spec : ∀ {σ : St} {k n : Nat} {r : Option Nat}, ldead σ k r = some n → r = some n ∨ k ≤ n ∧ σ[n - k]? = some .dead
  | [], _, _, _, h => .inl h
  | o :: l, k, n, r, h => by
    have step : ∀ {r'}, ldead l (k + 1) r' = some n → r' = some n ∨ k ≤ n ∧ (o :: l)[n - k]? = some .dead := by
      intro r' h'
      rcases ldead_spec h' with h1 | ⟨h1, h2⟩
      · exact .inl h1
      · exact .inr ⟨by omega, by rw [show n - k = (n - (k + 1)) + 1 from by omega]; simpa using h2⟩
    cases o with
    | dead =>
      simp only [ldead] at h
      rcases step h with h1 | h1
      · injection h1 with h1; subst h1; exact .inr ⟨Nat.le_refl _, by simp⟩
      · exact .inr h1
    | _ => simp only [ldead] at h; exact step h
/-- a variable, set: the environment as it stands -/
def nput (e : Env) (dst : Option Nat) (v : V) : Option Env :=
  match dst with
  | some t => some ((t, v) :: e)
  | none => some e
theorem nput_eq (e : Env) (dst : Option Nat) (v : V) : nput e dst v = some (Env.put e dst v) := by cases dst <;> rfl
section
variable {C : Cx} {all l : List Oper} {k : Nat} {e : Env} {σ : St} {o : Oper} {acc : List Rec} {Q : Env → St → Prop}
theorem WL.b [HasGlob] (hcmp : isCmp o = true) (hT : C.T.fits C.P) (hg : guardOk e all o = some true) (hd : dstOk C.n o = true) (hm : makes C o = false)
    {b : Bool} (hop : aop C 0 e σ o = some (bool b, [])) (ht : b = true → WL C all l (k + 1) (Env.put e o.dst (bool true)) σ Q)
    (hf : b = false → WL C all l (k + 1) (Env.put e o.dst (bool false)) σ Q) : WL C all (o :: l) k e σ Q := by
  cases b with
  | true => exact WL.q hT hg hd hm hop (fV_eq _) (ht rfl)
  | false => exact WL.q hT hg hd hm hop (fV_eq _) (hf rfl)
theorem WL.t [HasGlob] (hcmp : isCmp o = true) (hT : C.T.fits C.P) (hg : guardOk e all o = some true) (hd : dstOk C.n o = true) (hm : makes C o = false)
    {b : Bool} (hop : aop C 0 e σ o = some (bool b, [])) (hb : b = true) (ht : WL C all l (k + 1) (Env.put e o.dst (bool true)) σ Q) : WL C all (o :: l) k e σ Q := by
  subst hb; exact WL.q hT hg hd hm hop (fV_eq _) ht
theorem WL.f [HasGlob] (hcmp : isCmp o = true) (hT : C.T.fits C.P) (hg : guardOk e all o = some true) (hd : dstOk C.n o = true) (hm : makes C o = false)
    {b : Bool} (hop : aop C 0 e σ o = some (bool b, [])) (hb : b = false) (ht : WL C all l (k + 1) (Env.put e o.dst (bool false)) σ Q) : WL C all (o :: l) k e σ Q := by
  subst hb; exact WL.q hT hg hd hm hop (fV_eq _) ht
theorem DL.b [HasGlob] (hcmp : isCmp o = true) (hT : C.T.fits C.P) (hg : guardOk e all o = some true) (hd : dstOk C.n o = true) (hm : makes C o = false)
    {b : Bool} (hop : aop C 0 e σ o = some (bool b, [])) {T F : List Nat} (hT' : fL (reads all o) = some T) (hF' : fL (foot (opEnv e o) o) = some F)
    (ht : b = true → DL C all l (k + 1) (Env.put e o.dst (bool true)) σ (⟨o.dst, .undef, [], T, F, [], []⟩ :: acc) Q)
    (hf : b = false → DL C all l (k + 1) (Env.put e o.dst (bool false)) σ (⟨o.dst, .undef, [], T, F, [], []⟩ :: acc) Q) : DL C all (o :: l) k e σ acc Q := by
  cases b with
  | true => exact DL.q hT hg hd hm hop (fV_eq _) hT' hF' (ht rfl)
  | false => exact DL.q hT hg hd hm hop (fV_eq _) hT' hF' (hf rfl)
theorem DL.t [HasGlob] (hcmp : isCmp o = true) (hT : C.T.fits C.P) (hg : guardOk e all o = some true) (hd : dstOk C.n o = true) (hm : makes C o = false)
    {b : Bool} (hop : aop C 0 e σ o = some (bool b, [])) {T F : List Nat} (hT' : fL (reads all o) = some T) (hF' : fL (foot (opEnv e o) o) = some F) (hb : b = true)
    (ht : DL C all l (k + 1) (Env.put e o.dst (bool true)) σ (⟨o.dst, .undef, [], T, F, [], []⟩ :: acc) Q) : DL C all (o :: l) k e σ acc Q := by
  subst hb; exact DL.q hT hg hd hm hop (fV_eq _) hT' hF' ht
theorem DL.f [HasGlob] (hcmp : isCmp o = true) (hT : C.T.fits C.P) (hg : guardOk e all o = some true) (hd : dstOk C.n o = true) (hm : makes C o = false)
    {b : Bool} (hop : aop C 0 e σ o = some (bool b, [])) {T F : List Nat} (hT' : fL (reads all o) = some T) (hF' : fL (foot (opEnv e o) o) = some F) (hb : b = false)
    (ht : DL C all l (k + 1) (Env.put e o.dst (bool false)) σ (⟨o.dst, .undef, [], T, F, [], []⟩ :: acc) Q) : DL C all (o :: l) k e σ acc Q := by
  subst hb; exact DL.q hT hg hd hm hop (fV_eq _) hT' hF' ht
/-- an operation that could have made an object, and did not -/
theorem DL.m1 [HasGlob] (hT : C.T.fits C.P) (hg : guardOk e all o = some true) (hd : dstOk C.n o = true) {nid : Nat} (hn : ldead σ 0 none = some nid)
    {v v' : V} {u : Upd} {σ' : St} (hop : aop C nid e σ o = some (v, u)) (hv : fV v = some v') (hσ : fS (σ.upd u) = some σ') {T F ws : List Nat} (hT' : fL (reads all o) = some T) (hF' : fL (foot (opEnv e o) o) = some F) (hw : fL (u.map (·.1)) = some ws)
    (h : DL C all l (k + 1) (Env.put e o.dst v') σ' (⟨o.dst, .undef, ws.map fun i => (i, .dead), T, nid :: F, [], []⟩ :: acc) Q) : DL C all (o :: l) k e σ acc Q := by
  rw [fV_eq] at hv; injection hv with hv; subst hv
  rw [fS_eq] at hσ; injection hσ with hσ; subst hσ
  rw [fL_eq] at hT' hF' hw; injection hT' with hT'; injection hF' with hF'; injection hw with hw; subst hT'; subst hF'; subst hw
  have hn' : σ[nid]? = some .dead := by
    rcases ldead_spec hn with h1 | h1
    · simp at h1
    · simpa using h1.2
  intro hall
  refine (DL.cons (r := ⟨o.dst, v, u, reads all o, nid :: foot (opEnv e o) o, [], []⟩) (by simp [Rec.key, Function.comp_def]) ?_ h) hall
  intro e2 σ2 hTm hF hlen hGr Q K2 κ w a hs hK
  have hg2 : guardOk e2 all o = some true := by rw [guardOk_congr fun t ht => hTm t (by simp [reads, ht])]; exact hg
  have he : opEnv e2 o = opEnv e o := slots_congr fun t ht => hTm t (by simp [reads, ht])
  have hop2 : aop C nid e2 σ2 o = some (v, u) := by
    unfold aop at hop ⊢
    rw [he, inFoot_congr fun id hid => hF id (.inl (by simp [hid]))]; exact hop
  unfold wpOp
  simp only [head_of hall, guard_sound (ops := all.toArray) hs (by simpa using hg2), if_true]
  left
  obtain ⟨x, w', κ', hrun, hv, hu, hev, hR⟩ := aop_sound hT hs (fun hm => by rw [hF nid (.inl (by simp))]; exact hn') hop2
  have hs' : SR C.n κ' w' (Env.put e2 o.dst v) (σ2.upd u) (a.put o.dst x) := hs.put hev.stays hev.live hR hv hu (dstOk_spec hd)
  unfold Oper.wp
  rcases hrun with hrun | ⟨hrun, rfl⟩
  · rw [hrun]; exact hK κ' w' _ hev hs'
  · rw [hrun]; exact hK κ' w' _ hev hs'
/-! the same, with the environment written out -/
theorem WL.skip' [HasGlob] (hg : guardOk e all o = some false) (hd : dstOk C.n o = true) {e' : Env} (he : nput e o.dst .undef = some e') (h : WL C all l (k + 1) e' σ Q) : WL C all (o :: l) k e σ Q := by
  rw [nput_eq] at he; injection he with he; subst he; exact WL.skip hg hd h
theorem WL.q' [HasGlob] (hT : C.T.fits C.P) (hg : guardOk e all o = some true) (hd : dstOk C.n o = true) (hm : makes C o = false)
    {v v' : V} (hop : aop C 0 e σ o = some (v, [])) (hv : fV v = some v') {e' : Env} (he : nput e o.dst v' = some e') (h : WL C all l (k + 1) e' σ Q) : WL C all (o :: l) k e σ Q := by
  rw [nput_eq] at he; injection he with he; subst he; exact WL.q hT hg hd hm hop hv h
theorem WL.w' [HasGlob] (hT : C.T.fits C.P) (hg : guardOk e all o = some true) (hd : dstOk C.n o = true) (hm : makes C o = false)
    {v v' : V} {u : Upd} {σ' : St} (hop : aop C 0 e σ o = some (v, u)) (hv : fV v = some v') (hσ : fS (σ.upd u) = some σ') {e' : Env} (he : nput e o.dst v' = some e') (h : WL C all l (k + 1) e' σ' Q) : WL C all (o :: l) k e σ Q := by
  rw [nput_eq] at he; injection he with he; subst he; exact WL.w hT hg hd hm hop hv hσ h
theorem WL.m' [HasGlob] (hm : makes C o = true) (hT : C.T.fits C.P) (hg : guardOk e all o = some true) (hd : dstOk C.n o = true)
    {v v' : V} {u : Upd} {σ' : St} (hop : aop C σ.length e (σ ++ [.dead]) o = some (v, u)) (hv : fV v = some v') (hσ : fS (St.upd (σ ++ [.dead]) u) = some σ')
    {e' : Env} (he : nput e o.dst v' = some e') (h : WL C all l (k + 1) e' σ' Q) : WL C all (o :: l) k e σ Q := by
  rw [nput_eq] at he; injection he with he; subst he; exact WL.m hT hg hd hop hv hσ h
theorem WL.b' [HasGlob] (hcmp : isCmp o = true) (hT : C.T.fits C.P) (hg : guardOk e all o = some true) (hd : dstOk C.n o = true) (hm : makes C o = false)
    {b : Bool} (hop : aop C 0 e σ o = some (bool b, [])) {e1 e2 : Env} (he1 : nput e o.dst (bool true) = some e1) (he2 : nput e o.dst (bool false) = some e2)
    (ht : b = true → WL C all l (k + 1) e1 σ Q) (hf : b = false → WL C all l (k + 1) e2 σ Q) : WL C all (o :: l) k e σ Q := by
  rw [nput_eq] at he1 he2; injection he1 with he1; injection he2 with he2; subst he1; subst he2; exact WL.b hcmp hT hg hd hm hop ht hf
theorem WL.t' [HasGlob] (hcmp : isCmp o = true) (hT : C.T.fits C.P) (hg : guardOk e all o = some true) (hd : dstOk C.n o = true) (hm : makes C o = false)
    {b : Bool} (hop : aop C 0 e σ o = some (bool b, [])) (hb : b = true) {e' : Env} (he : nput e o.dst (bool true) = some e') (h : WL C all l (k + 1) e' σ Q) : WL C all (o :: l) k e σ Q := by
  rw [nput_eq] at he; injection he with he; subst he; exact WL.t hcmp hT hg hd hm hop hb h
theorem WL.f' [HasGlob] (hcmp : isCmp o = true) (hT : C.T.fits C.P) (hg : guardOk e all o = some true) (hd : dstOk C.n o = true) (hm : makes C o = false)
    {b : Bool} (hop : aop C 0 e σ o = some (bool b, [])) (hb : b = false) {e' : Env} (he : nput e o.dst (bool false) = some e') (h : WL C all l (k + 1) e' σ Q) : WL C all (o :: l) k e σ Q := by
  rw [nput_eq] at he; injection he with he; subst he; exact WL.f hcmp hT hg hd hm hop hb h
theorem WL.c' [HasGlob] (hic : isCall o = true) (hg : guardOk e all o = some true) (hd : dstOk C.n o = true) {f : FuncId} {vs vs' : List V} {r : V} (hc : calleeOf e o = some (f, vs)) (hsn : snapVs (fun id => σ[id]?) vs = some vs')
    (hni : vs'.all noIds = true) (hS : Comp C.P f vs' r) (hr : noIds r = true) {e' : Env} (he : nput e o.dst r = some e') (h : WL C all l (k + 1) e' σ Q) : WL C all (o :: l) k e σ Q := by
  rw [nput_eq] at he; injection he with he; subst he; exact WL.c hg hd hc hsn hni hS hr h
theorem DL.skip' [HasGlob] (hg : guardOk e all o = some false) (hd : dstOk C.n o = true) {T : List Nat} (hT : fL (guardTmps all o) = some T) {e' : Env} (he : nput e o.dst .undef = some e')
    (h : DL C all l (k + 1) e' σ (⟨o.dst, .undef, [], T, [], [], []⟩ :: acc) Q) : DL C all (o :: l) k e σ acc Q := by
  rw [nput_eq] at he; injection he with he; subst he; exact DL.skip hg hd hT h
theorem DL.q' [HasGlob] (hT : C.T.fits C.P) (hg : guardOk e all o = some true) (hd : dstOk C.n o = true) (hm : makes C o = false)
    {v v' : V} (hop : aop C 0 e σ o = some (v, [])) (hv : fV v = some v') {T F : List Nat} (hT' : fL (reads all o) = some T) (hF' : fL (foot (opEnv e o) o) = some F) {e' : Env} (he : nput e o.dst v' = some e')
    (h : DL C all l (k + 1) e' σ (⟨o.dst, .undef, [], T, F, [], []⟩ :: acc) Q) : DL C all (o :: l) k e σ acc Q := by
  rw [nput_eq] at he; injection he with he; subst he; exact DL.q hT hg hd hm hop hv hT' hF' h
theorem DL.w' [HasGlob] (hT : C.T.fits C.P) (hg : guardOk e all o = some true) (hd : dstOk C.n o = true) (hm : makes C o = false)
    {v v' : V} {u : Upd} {σ' : St} (hop : aop C 0 e σ o = some (v, u)) (hv : fV v = some v') (hσ : fS (σ.upd u) = some σ') {T F ws : List Nat} (hT' : fL (reads all o) = some T) (hF' : fL (foot (opEnv e o) o) = some F) (hw : fL (u.map (·.1)) = some ws)
    {e' : Env} (he : nput e o.dst v' = some e') (h : DL C all l (k + 1) e' σ' (⟨o.dst, .undef, ws.map fun i => (i, .dead), T, F, [], []⟩ :: acc) Q) : DL C all (o :: l) k e σ acc Q := by
  rw [nput_eq] at he; injection he with he; subst he; exact DL.w hT hg hd hm hop hv hσ hT' hF' hw h
theorem DL.m' [HasGlob] (hm : makes C o = true) (hT : C.T.fits C.P) (hg : guardOk e all o = some true) (hd : dstOk C.n o = true) {nid : Nat} (hn : fdead σ 0 = some nid)
    {v v' : V} {u : Upd} {σ' : St} (hop : aop C nid e σ o = some (v, u)) (hv : fV v = some v') (hσ : fS (σ.upd u) = some σ') {T F ws : List Nat} (hT' : fL (reads all o) = some T) (hF' : fL (foot (opEnv e o) o) = some F) (hw : fL (u.map (·.1)) = some ws)
    (hin : ws.elem nid = true) {e' : Env} (he : nput e o.dst v' = some e') (h : DL C all l (k + 1) e' σ' (⟨o.dst, .undef, ws.map fun i => (i, .dead), T, F, [], []⟩ :: acc) Q) : DL C all (o :: l) k e σ acc Q := by
  rw [nput_eq] at he; injection he with he; subst he; exact DL.m hT hg hd hn hop hv hσ hT' hF' hw hin h
theorem DL.n' [HasGlob] (hm : makes C o = true) (hT : C.T.fits C.P) (hg : guardOk e all o = some true) (hd : dstOk C.n o = true) {nid : Nat} (hn : ldead σ 0 none = some nid)
    {v v' : V} {u : Upd} {σ' : St} (hop : aop C nid e σ o = some (v, u)) (hv : fV v = some v') (hσ : fS (σ.upd u) = some σ') {T F ws : List Nat} (hT' : fL (reads all o) = some T) (hF' : fL (foot (opEnv e o) o) = some F) (hw : fL (u.map (·.1)) = some ws)
    {e' : Env} (he : nput e o.dst v' = some e') (h : DL C all l (k + 1) e' σ' (⟨o.dst, .undef, ws.map fun i => (i, .dead), T, nid :: F, [], []⟩ :: acc) Q) : DL C all (o :: l) k e σ acc Q := by
  rw [nput_eq] at he; injection he with he; subst he; exact DL.m1 hT hg hd hn hop hv hσ hT' hF' hw h
theorem DL.b' [HasGlob] (hcmp : isCmp o = true) (hT : C.T.fits C.P) (hg : guardOk e all o = some true) (hd : dstOk C.n o = true) (hm : makes C o = false)
    {b : Bool} (hop : aop C 0 e σ o = some (bool b, [])) {T F : List Nat} (hT' : fL (reads all o) = some T) (hF' : fL (foot (opEnv e o) o) = some F) {e1 e2 : Env} (he1 : nput e o.dst (bool true) = some e1) (he2 : nput e o.dst (bool false) = some e2)
    (ht : b = true → DL C all l (k + 1) e1 σ (⟨o.dst, .undef, [], T, F, [], []⟩ :: acc) Q) (hf : b = false → DL C all l (k + 1) e2 σ (⟨o.dst, .undef, [], T, F, [], []⟩ :: acc) Q) : DL C all (o :: l) k e σ acc Q := by
  rw [nput_eq] at he1 he2; injection he1 with he1; injection he2 with he2; subst he1; subst he2; exact DL.b hcmp hT hg hd hm hop hT' hF' ht hf
theorem DL.t' [HasGlob] (hcmp : isCmp o = true) (hT : C.T.fits C.P) (hg : guardOk e all o = some true) (hd : dstOk C.n o = true) (hm : makes C o = false)
    {b : Bool} (hop : aop C 0 e σ o = some (bool b, [])) (hb : b = true) {T F : List Nat} (hT' : fL (reads all o) = some T) (hF' : fL (foot (opEnv e o) o) = some F) {e' : Env} (he : nput e o.dst (bool true) = some e')
    (h : DL C all l (k + 1) e' σ (⟨o.dst, .undef, [], T, F, [], []⟩ :: acc) Q) : DL C all (o :: l) k e σ acc Q := by
  rw [nput_eq] at he; injection he with he; subst he; exact DL.t hcmp hT hg hd hm hop hT' hF' hb h
theorem DL.f' [HasGlob] (hcmp : isCmp o = true) (hT : C.T.fits C.P) (hg : guardOk e all o = some true) (hd : dstOk C.n o = true) (hm : makes C o = false)
    {b : Bool} (hop : aop C 0 e σ o = some (bool b, [])) (hb : b = false) {T F : List Nat} (hT' : fL (reads all o) = some T) (hF' : fL (foot (opEnv e o) o) = some F) {e' : Env} (he : nput e o.dst (bool false) = some e')
    (h : DL C all l (k + 1) e' σ (⟨o.dst, .undef, [], T, F, [], []⟩ :: acc) Q) : DL C all (o :: l) k e σ acc Q := by
  rw [nput_eq] at he; injection he with he; subst he; exact DL.f hcmp hT hg hd hm hop hT' hF' hb h
theorem DL.c' [HasGlob] (hic : isCall o = true) (hg : guardOk e all o = some true) (hd : dstOk C.n o = true) {f : FuncId} {vs vs' : List V} {r : V} (hc : calleeOf (opEnv e o) o = some (f, vs)) (hsn : snapVs (inFoot (foot (opEnv e o) o) σ) vs = some vs')
    (hni : vs'.all noIds = true) (hS : Comp C.P f vs' r) (hr : noIds r = true) {T F : List Nat} (hT' : fL (reads all o) = some T) (hF' : fL (foot (opEnv e o) o) = some F) {e' : Env} (he : nput e o.dst r = some e')
    (h : DL C all l (k + 1) e' σ (⟨o.dst, .undef, [], T, F, [], []⟩ :: acc) Q) : DL C all (o :: l) k e σ acc Q := by
  rw [nput_eq] at he; injection he with he; subst he; exact DL.c hg hd hc hsn hni hS hr hT' hF' h
/-- a region's end: all variables are kept -/
theorem WL.fin [HasGlob] (h : Q e σ) : WL C all [] k e σ Q := fun _ κ w a hs => (WO.nil (Q := Q) (C := C) (ops := all.toArray) (e := e) h) κ w a hs
theorem DL.fin [HasGlob] (hck : check all acc.reverse [] = true) (h : Q e σ) : DL C all [] k e σ acc Q :=
  fun _ => ⟨[], e, σ, .nil _ _ _, by simpa using hck, e, fun _ _ h => h, h⟩
/-- a function's end: the results as they stand -/
theorem Fin.mk {C : Cx} {rs : List ResultVar} {n : Nat} {e : Env} {σ : St} {R : V → St → Prop} {vs : List V} {v r r' : V} {σ' : St} (h1 : resOf C.T e (fun id => σ[id]?) rs = some vs) (h2 : tupled vs = some v) (h3 : snapV (fun id => σ[id]?) v = some r) (hr : fV r = some r')
    (h4 : fS (σ.take n) = some σ') (h5 : r'.under (alive σ') = true) (h6 : (σ'.all fun o => o.under (alive σ')) = true) (h7 : R r' σ') : Fin C rs n e σ R := by
  rw [fS_eq] at h4; injection h4 with h4; subst h4
  rw [fV_eq] at hr; injection hr with hr; subst hr
  exact ⟨vs, v, r, _, h1, h2, .inr h3, .inr ⟨rfl, h5, h6⟩, h7⟩
end
end Go.Am
/- The abstract machine: operations upon lists that are not written out. -/
namespace Go.Am
section
variable {C : Cx} {e : Env} {σ : St} {o : Oper} {nid : Nat}
theorem aop_ix [HasGlob] {t : TypeId} {x i : Operand} {et : TypeId} {n : Nat} {rows : List (List D)} {kx : IntKind} {j : Int} {row : List D} (ho : o.op = .indexAddr t x i) (h1 : C.T.und t = some (.slice et)) (h2 : C.T.size et = some n)
    (hx : ev (opEnv e o) x = some (.one (.d (.list rows)))) (hi : ev (opEnv e o) i = some (.one (.d (.sc (.int kx j))))) (h4 : 0 ≤ j) (h3 : rows[j.toNat]? = some row) (h5 : row.length = n) :
    aop C nid e σ o = some (.one (.rptr row), []) := by
  unfold aop core
  rw [ho]
  simp only [hx, hi, indexAddr, h1, h2, h3, h5, decide_eq_true h4, cond_true, Nat.beq_refl, noU]
theorem aop_ixa [HasGlob] {t : TypeId} {x i : Operand} {et : TypeId} {n id ep len : Nat} {rows : List (List D)} {kx : IntKind} {j : Int} {row : List D} (ho : o.op = .indexAddr t x i) (h1 : C.T.und t = some (.slice et)) (h2 : C.T.size et = some n)
    (hx : ev (opEnv e o) x = some (.one (.arr id ep len))) (hi : ev (opEnv e o) i = some (.one (.d (.sc (.int kx j))))) (hl : inFoot (foot (opEnv e o) o) σ id = some (.arr ep false n rows)) (hn : len = rows.length)
    (h4 : 0 ≤ j) (h3 : rows[j.toNat]? = some row) : aop C nid e σ o = some (.one (.rptr row), []) := by
  subst hn
  unfold aop core
  rw [ho]
  simp only [hx, hi, indexAddr, h1, h2, hl, h3, decide_eq_true h4, cond_true, cond_false, Nat.beq_refl, noU, Bool.and_self]
theorem aop_ixw [HasGlob] {t : TypeId} {x i : Operand} {et : TypeId} {n id ep len : Nat} {rows : List (List D)} {kx : IntKind} {j : Int} {row : List D} (ho : o.op = .indexAddr t x i) (h1 : C.T.und t = some (.slice et)) (h2 : C.T.size et = some n)
    (hx : ev (opEnv e o) x = some (.one (.arr id ep len))) (hi : ev (opEnv e o) i = some (.one (.d (.sc (.int kx j))))) (hl : inFoot (foot (opEnv e o) o) σ id = some (.arr ep true n rows)) (hn : len = rows.length)
    (h4 : 0 ≤ j) (h3 : rows[j.toNat]? = some row) : aop C nid e σ o = some (.one (.eptr id ep len n j.toNat 0), []) := by
  subst hn
  unfold aop core
  rw [ho]
  simp only [hx, hi, indexAddr, h1, h2, hl, h3, decide_eq_true h4, cond_true, cond_false, Nat.beq_refl, noU, Bool.and_self]
theorem aop_app [HasGlob] {s x : Operand} {t t' et : TypeId} {n w id ep len : Nat} {m : Bool} {z : List Cell} {rows xs : List (List D)} {xv : V} (ho : o.op = .call { callee := .builtin .append, args := #[s, x], argTypes := #[t, t'] })
    (hs : ev (opEnv e o) s = some (.one (.arr id ep len))) (hx : ev (opEnv e o) x = some xv) (ht' : C.T.und t' = some (.slice et)) (ht : C.T.elem t = some et) (hsz : C.T.size et = some n) (hby : C.T.bytes et = some (w + 1)) (hz : zeroCells C.T et = some z) (hzn : z.length = n)
    (hl : inFoot (foot (opEnv e o) o) σ id = some (.arr ep m n rows)) (hn : len = rows.length) (hxs : rowsIn (inFoot (foot (opEnv e o) o) σ) xv = some xs) (hok : rowsOk n xs = true) (hsm : (rows.length + xs.length) * (w + 1) ≤ most) :
    aop C nid e σ o = some (.one (.arr id ep (rows.length + xs.length)), [(id, .arr ep m n (rows ++ xs))]) := by
  subst hn
  subst hzn
  unfold aop core
  rw [ho]
  have hb : Nat.ble ((rows.length + xs.length) * (w + 1)) most = true := Nat.ble_eq_true_of_le hsm
  simp only [hs, hx, ht', appendOf, ht, hxs, hsz, hby, hz, hok, hl, hb, cond_true, Nat.beq_refl, Bool.and_self]
theorem aop_app0 [HasGlob] {s x : Operand} {t t' et : TypeId} {n w : Nat} {z : List Cell} {xs : List (List D)} {xv : V} (ho : o.op = .call { callee := .builtin .append, args := #[s, x], argTypes := #[t, t'] })
    (hs : ev (opEnv e o) s = some (.one (.d (.sc (.slice none 0 0))))) (hx : ev (opEnv e o) x = some xv) (ht' : C.T.und t' = some (.slice et)) (ht : C.T.elem t = some et) (hsz : C.T.size et = some n) (hby : C.T.bytes et = some (w + 1)) (hz : zeroCells C.T et = some z) (hzn : z.length = n)
    (hxs : rowsIn (inFoot (foot (opEnv e o) o) σ) xv = some xs) (hok : rowsOk n xs = true) (hsm : xs.length * (w + 1) ≤ most) (hm : arMode C.ar o.dst = none) :
    aop C nid e σ o = some (.one (.d (.list xs)), []) := by
  subst hzn
  unfold aop core
  rw [ho]
  have hb : Nat.ble (xs.length * (w + 1)) most = true := Nat.ble_eq_true_of_le hsm
  simp only [hs, hx, ht', appendOf, ht, hxs, hsz, hby, hz, hok, hb, hm, cond_true, Nat.beq_refl, Bool.and_self]
theorem aop_app0m [HasGlob] {s x : Operand} {t t' et : TypeId} {n w : Nat} {z : List Cell} {xs : List (List D)} {xv : V} {m : Bool} (ho : o.op = .call { callee := .builtin .append, args := #[s, x], argTypes := #[t, t'] })
    (hs : ev (opEnv e o) s = some (.one (.d (.sc (.slice none 0 0))))) (hx : ev (opEnv e o) x = some xv) (ht' : C.T.und t' = some (.slice et)) (ht : C.T.elem t = some et) (hsz : C.T.size et = some n) (hby : C.T.bytes et = some (w + 1)) (hz : zeroCells C.T et = some z) (hzn : z.length = n)
    (hxs : rowsIn (inFoot (foot (opEnv e o) o) σ) xv = some xs) (hok : rowsOk n xs = true) (hsm : xs.length * (w + 1) ≤ most) (hm : arMode C.ar o.dst = some m) :
    aop C nid e σ o = some (.one (.arr nid 0 xs.length), [(nid, .arr 0 m n xs)]) := by
  subst hzn
  unfold aop core
  rw [ho]
  have hb : Nat.ble (xs.length * (w + 1)) most = true := Nat.ble_eq_true_of_le hsm
  simp only [hs, hx, ht', appendOf, ht, hxs, hsz, hby, hz, hok, hb, hm, cond_true, Nat.beq_refl, Bool.and_self]
theorem aop_cut [HasGlob] {t : TypeId} {x : Operand} {lo hi : Option Operand} {et : TypeId} {n : Nat} {rows : List (List D)} {l h : Option Int} (ho : o.op = .slice t x lo hi none) (ht : C.T.elem t = some et) (hsz : C.T.size et = some n)
    (hx : ev (opEnv e o) x = some (.one (.d (.list rows)))) (hlo : bound (ev (opEnv e o)) lo = some l) (hhi : bound (ev (opEnv e o)) hi = some h) (hok : rowsOk n rows = true)
    (h1 : 0 ≤ l.getD 0) (h2 : l.getD 0 ≤ h.getD rows.length) (h3 : h.getD rows.length ≤ rows.length) :
    aop C nid e σ o = some (.one (.d (.list ((rows.take (h.getD rows.length).toNat).drop (l.getD 0).toNat))), []) := by
  unfold aop core
  rw [ho]
  simp only [hx, hlo, hhi, sliceOf, ht, hsz, hok, decide_eq_true h1, decide_eq_true h2, decide_eq_true h3, cond_true, Bool.and_self]
theorem aop_str [HasGlob] {src dst : TypeId} {x : Operand} {et : TypeId} {v : V} {rows : List (List D)} {bs : List UInt8} (ho : o.op = .convert src dst x) (h1 : C.T.und src = some (.slice et)) (h2 : C.T.und dst = some .string) (h3 : C.T.und et = some (.int .u8))
    (hx : ev (opEnv e o) x = some v) (hnot : (match v with | .one (.d (.sc (.string _))) => false | _ => true) = true) (hr : rowsIn (inFoot (foot (opEnv e o) o) σ) v = some rows) (hb : bytesOf rows = some bs) :
    aop C nid e σ o = some (.one (.d (.sc (.string ⟨bs.toArray⟩))), []) := by
  unfold aop core
  rw [ho]
  have : convertOf C.T src dst v (inFoot (foot (opEnv e o) o) σ) = some (.one (.d (.sc (.string ⟨bs.toArray⟩)))) := by
    unfold convertOf
    simp only [h1, h2, h3, hr, hb]
    split
    · simp at hnot
    · rename_i h4; injection h4 with h4; subst h4; rfl
    · simp at *
  simp only [hx, this]
/-! a slice that is written out: its rows as they stand -/
def fLL : List (List D) → Option (List (List D))
  | [] => some []
  | r :: rs => match fL r, fLL rs with
    | some r, some rs => some (r :: rs)
    | _, _ => none
theorem fLL_eq : ∀ l : List (List D), fLL l = some l
  | [] => rfl
  | r :: rs => by simp [fLL, fL_eq, fLL_eq rs]
def isBuildSlice (o : Oper) : Bool :=
  match o.op with
  | .buildSlice _ _ _ => true
  | _ => false
theorem WL.s' [HasGlob] {all l : List Oper} {k : Nat} {Q : Env → St → Prop} (hb : isBuildSlice o = true) (hT : C.T.fits C.P) (hg : guardOk e all o = some true) (hd : dstOk C.n o = true) (hm : makes C o = false)
    {rows rows' : List (List D)} (hop : aop C 0 e σ o = some (.one (.d (.list rows)), [])) (hr : fLL rows = some rows') {e' : Env} (he : nput e o.dst (.one (.d (.list rows'))) = some e') (h : WL C all l (k + 1) e' σ Q) : WL C all (o :: l) k e σ Q := by
  rw [fLL_eq] at hr; injection hr with hr; subst hr; exact WL.q' hT hg hd hm hop (fV_eq _) he h
theorem DL.s' [HasGlob] {all l : List Oper} {k : Nat} {acc : List Rec} {Q : Env → St → Prop} (hb : isBuildSlice o = true) (hT : C.T.fits C.P) (hg : guardOk e all o = some true) (hd : dstOk C.n o = true) (hm : makes C o = false)
    {rows rows' : List (List D)} (hop : aop C 0 e σ o = some (.one (.d (.list rows)), [])) (hr : fLL rows = some rows') {T F : List Nat} (hT' : fL (reads all o) = some T) (hF' : fL (foot (opEnv e o) o) = some F)
    {e' : Env} (he : nput e o.dst (.one (.d (.list rows'))) = some e') (h : DL C all l (k + 1) e' σ (⟨o.dst, .undef, [], T, F, [], []⟩ :: acc) Q) : DL C all (o :: l) k e σ acc Q := by
  rw [fLL_eq] at hr; injection hr with hr; subst hr; exact DL.q' hT hg hd hm hop (fV_eq _) hT' hF' he h
theorem rowsIn_arr {look : Look} {id ep len sz : Nat} {m : Bool} {rows : List (List D)} (h : look id = some (.arr ep m sz rows)) (hn : len = rows.length) : rowsIn look (.one (.arr id ep len)) = some rows := by
  subst hn
  simp [rowsIn, rowsOf, h]
end
end Go.Am
/- The abstract machine: loops, once more: by an invariant over listed variables, and round by round. -/
namespace Go.Am
section
variable {C : Cx} {e : Env} {σ : St} {Q : Ex → Env → St → Prop}
/-- a loop: I n: what holds at a round's head, n more rounds at most; only the variables of the list are kept -/
def round2 (n : Nat) (I : Nat → Env → St → Prop) (k : Nat) (l : List Nat) (Q : Ex → Env → St → Prop) : Ex → Env → St → Prop
  | .normal, e, σ => ∃ m e', m < n ∧ pick l e = some e' ∧ I m e' (σ.take k) ∧ trims k e' σ = true
  | .exit id, e, σ => Q (.exit id) e σ
  | .ret, e, σ => Q .ret e σ
theorem round2.mk {n m : Nat} {I : Nat → Env → St → Prop} {k : Nat} {l : List Nat} {e' : Env} {σ' : St} (hp : pick l e = some e') (hσ : fS (σ.take k) = some σ') (ht : trims k e' σ = true) (hm : m < n) (hI : I m e' σ') : round2 n I k l Q .normal e σ := by
  rw [fS_eq] at hσ; injection hσ with hσ; subst hσ
  exact ⟨m, e', hm, hp, hI, ht⟩
/-- so many rounds -/
def again (R : Env → St → Prop) (Q : Ex → Env → St → Prop) : Ex → Env → St → Prop
  | .normal, e, σ => R e σ
  | .exit id, e, σ => Q (.exit id) e σ
  | .ret, e, σ => Q .ret e σ
def WR [HasGlob] (C : Cx) (c : Code) (Q : Ex → Env → St → Prop) : Nat → Env → St → Prop
  | 0, _, _ => False
  | n + 1, e, σ => W C c e σ (again (WR C c Q n) Q)
theorem WR.step [HasGlob] {c : Code} {n : Nat} (h : W C c e σ (again (WR C c Q n) Q)) : WR C c Q (n + 1) e σ := h
theorem W.rounds [HasGlob] {c : Code} (n : Nat) (h : WR C c Q n e σ) : W C (.loop c) e σ Q := by
  intro κ0 w0 a0 hs0
  have key : ∀ n e σ' κ w a, WR C c Q n e σ' → Evo κ0 w0 σ κ w σ' → SR C.n κ w e σ' a →
      Code.rounds C.P c (fun x a' w' => ∃ ex e' σ' κ', x = Ex.to ex ∧ Q ex e' σ' ∧ Evo κ0 w0 σ κ' w' σ' ∧ SR C.n κ' w' e' σ' a') n a w := by
    intro n
    induction n with
    | zero => intro e σ' κ w a h; exact h.elim
    | succ n ih =>
      intro e σ' κ w a h hev hs
      refine wp_mono (h κ w a hs) fun x a' w' hx => ?_
      obtain ⟨ex, e'', σ'', κ', rfl, hq, hev', hs'⟩ := hx
      cases ex with
      | exit id => exact ⟨.exit id, e'', σ'', κ', rfl, hq, hev.trans hev', hs'⟩
      | ret => exact ⟨.ret, e'', σ'', κ', rfl, hq, hev.trans hev', hs'⟩
      | normal => exact ih _ _ _ _ _ hq (hev.trans hev') hs'
  exact wp_loop_rounds n (key n e σ κ0 w0 a0 h .refl hs0)
/-- forgetting, by name -/
theorem W.pick [HasGlob] {c : Code} (l : List Nat) {e' : Env} (hp : pick l e = some e') (h : W C c e' σ Q) : W C c e σ Q := W.sub (pick_sub hp) h
end
end Go.Am
