/- The abstract machine: from a walk over a function's code to its contract. -/
import Derived.Test.YtfbocpbeogkapaaAmReg
set_option linter.unusedVariables false
set_option linter.unusedSimpArgs false
namespace Go.Am

def resOf (T : Tab) (e : Env) (look : Look) : List ResultVar → Option (List V)
  | [] => some []
  | .tmp t :: r => match Env.get e t, resOf T e look r with
    | some v, some vs => some (v :: vs)
    | _, _ => none
  | .cell a t :: r => match Env.get e a with
    | some (.one c) => match loadFrom T t c look, resOf T e look r with
      | some v, some vs => some (v :: vs)
      | _, _ => none
    | _ => none
def fvs : List V → Option (List FV)
  | [] => some []
  | v :: r => match v.fv, fvs r with
    | some x, some xs => some (x :: xs)
    | _, _ => none
def tupled : List V → Option V
  | [v] => some v
  | vs => match fvs vs with
    | some xs => some (.tup xs)
    | none => none
def initEnv (k : Nat) : List V → Env
  | [] => []
  | v :: r => (k, v) :: initEnv (k + 1) r

/-- how a function ends: what it hands back (growing arrays as data), and that its own objects are gone -/
def Fin (C : Cx) (rs : List ResultVar) (n : Nat) (e : Env) (σ : St) (R : V → St → Prop) : Prop :=
  ∃ vs v r σ', resOf C.T e (fun id => σ[id]?) rs = some vs ∧ tupled vs = some v ∧ (r = v ∨ snapV (fun id => σ[id]?) v = some r) ∧
    (σ' = σ ∨ (σ' = σ.take n ∧ r.under (alive (σ.take n)) = true ∧ ((σ.take n).all fun o => o.under (alive (σ.take n))) = true)) ∧ R r σ'

theorem initEnv_get : ∀ (vs : List V) (k t : Nat) (v : V), Env.get (initEnv k vs) t = some v → k ≤ t ∧ vs[t - k]? = some v
  | [], k, t, v, h => by simp [initEnv, Env.get] at h
  | x :: r, k, t, v, h => by
    simp only [initEnv, Env.get] at h
    cases hb : Nat.beq k t with
    | true =>
      rw [hb] at h; simp only [cond_true, Option.some.injEq] at h; subst h
      have := Nat.eq_of_beq_eq_true hb
      subst this; simp
    | false =>
      rw [hb] at h; simp only [cond_false] at h
      obtain ⟨h1, h2⟩ := initEnv_get r (k + 1) t v h
      refine ⟨by omega, ?_⟩
      rw [show t - k = (t - (k + 1)) + 1 from by omega]; simpa using h2

def resRun (tmps : Array Value) : ResultVar → Sem Value
  | .tmp t => pure (tmps.getD t Go.undef)
  | .cell a t => do loadVar t (← asAddr (tmps.getD a Go.undef))

section
variable {C : Cx} {e : Env} {σ : St}

theorem res_sound (hT : C.T.fits C.P) {N κ w a} (hs : SR N κ w e σ a) : ∀ {rs : List ResultVar} {vs : List V}, resOf C.T e (fun id => σ[id]?) rs = some vs →
    ∃ xs : List Value, (rs.mapM (resRun a.tmps)).run C.P w = .ok xs w ∧ RVs κ w (alive σ) vs xs
  | [], vs, h => by simp only [resOf, Option.some.injEq] at h; subst h; exact ⟨[], rfl, .nil⟩
  | .tmp t :: r, vs, h => by
    simp only [resOf] at h
    cases hg : Env.get e t with
    | none => simp [hg] at h
    | some v =>
    cases hr : resOf C.T e (fun id => σ[id]?) r with
    | none => simp [hg, hr] at h
    | some rest =>
    simp only [hg, hr, Option.some.injEq] at h; subst h
    obtain ⟨x, h1, h2, h3⟩ := hs.env t v hg
    obtain ⟨xs, h4, h5⟩ := res_sound hT hs hr
    refine ⟨x :: xs, ?_, .cons h2 h3 h5⟩
    rw [List.mapM_cons]
    have : a.tmps.getD t Go.undef = x := by simp [h1]
    have hp : (resRun a.tmps (.tmp t)).run C.P w = .ok x w := by simp only [resRun, this]; rfl
    rw [run_bind hp, run_bind h4]; rfl
  | .cell b t :: r, vs, h => by
    simp only [resOf] at h
    cases hg : Env.get e b with
    | none => simp [hg] at h
    | some bv =>
    simp only [hg] at h
    cases bv with
    | agg => simp at h
    | tup => simp at h
    | undef => simp at h
    | one c =>
    simp only at h
    cases hl : loadFrom C.T t c (fun id => σ[id]?) with
    | none => simp [hl] at h
    | some v =>
    cases hr : resOf C.T e (fun id => σ[id]?) r with
    | none => simp [hl, hr] at h
    | some rest =>
    simp only [hl, hr, Option.some.injEq] at h; subst h
    obtain ⟨x, h1, h2, h3⟩ := hs.env b _ hg
    obtain ⟨xs, h4, h5⟩ := res_sound hT hs hr
    cases h2 with | one _ _ hc =>
    obtain ⟨y, h6, h7, h8⟩ := load_sound (P := C.P) (look := fun id => σ[id]?) hT hs.rs (fun _ _ h => h) hl hc
    refine ⟨y :: xs, ?_, .cons h7 h8 h5⟩
    rw [List.mapM_cons]
    have hx : a.tmps.getD b Go.undef = x := by simp [h1]
    have hload : (resRun a.tmps (.cell b t)).run C.P w = .ok y w := by
      simp only [resRun]
      rw [hx]
      cases x with
      | pointer ad =>
        cases ad with
        | none =>
          have h6' : (Instr.loadAt t (.pointer none)).run C.P w = .ok y w := h6
          simp [Instr.loadAt, Instr.sureAddr, stuck, Result.andThen] at h6'
        | some ad => exact h6
      | _ =>
        exfalso
        simp [Instr.loadAt, Instr.sureAddr, stuck, Result.andThen] at h6
    rw [run_bind hload, run_bind h4]; rfl

theorem fvs_spec : ∀ {vs : List V} {xs : List FV}, fvs vs = some xs → xs.length = vs.length ∧ ∀ (i : Nat) (x : FV), xs[i]? = some x → ∃ v, vs[i]? = some v ∧ v.fv = some x
  | [], xs, h => by simp only [fvs, Option.some.injEq] at h; subst h; exact ⟨rfl, fun i x h => by simp at h⟩
  | v :: r, xs, h => by
    simp only [fvs] at h
    cases h1 : v.fv with
    | none => simp [h1] at h
    | some y =>
    cases h2 : fvs r with
    | none => simp [h1, h2] at h
    | some ys =>
    simp only [h1, h2, Option.some.injEq] at h; subst h
    obtain ⟨h3, h4⟩ := fvs_spec h2
    refine ⟨by simp [h3], fun i x hi => ?_⟩
    cases i with
    | zero => simp at hi; subst hi; exact ⟨v, rfl, h1⟩
    | succ i => simpa using h4 i x (by simpa using hi)

theorem tupled_sound {κ w L} {vs : List V} {v : V} {xs : List Value} (h : tupled vs = some v) (hx : RVs κ w L vs xs) :
    ∃ y, (if h : xs.toArray.size = 1 then xs.toArray[0] else .tuple xs.toArray) = y ∧ RV κ w v y ∧ v.under L = true := by
  unfold tupled at h
  split at h
  · rename_i u
    injection h with h; subst h
    match xs, hx with
    | [x], hx =>
      obtain ⟨h1, h2⟩ := hx.2 0 u x rfl rfl
      exact ⟨x, by simp, h1, h2⟩
    | [], hx => have := hx.1; simp at this
    | _ :: _ :: _, hx => have := hx.1; simp at this
  · rename_i hne
    cases hf : fvs vs with
    | none => simp [hf] at h
    | some fs =>
    simp only [hf, Option.some.injEq] at h; subst h
    obtain ⟨h1, h2⟩ := fvs_spec hf
    have hlen : xs.toArray.size ≠ 1 := by
      intro h1
      have : vs.length = 1 := by rw [hx.1]; simpa using h1
      match vs, this with
      | [u], _ => exact hne u rfl
    refine ⟨.tuple xs.toArray, by rw [dif_neg hlen], .tup _ _ (by rw [h1, hx.1]; simp) fun i x y hi hy => ?_, ?_⟩
    · obtain ⟨v, h3, h4⟩ := h2 i x hi
      exact fv_sound h4 (hx.2 i v y h3 (by simpa using hy)).1
    · simp only [V.under, List.all_eq_true]
      intro x hm
      obtain ⟨i, hi⟩ := List.mem_iff_getElem?.1 hm
      obtain ⟨v, h3, h4⟩ := h2 i x hi
      have hlt : i < xs.length := by rw [← hx.1]; exact (List.getElem?_eq_some_iff.1 h3).1
      exact fv_under h4 (hx.2 i v xs[i] h3 (List.getElem?_eq_getElem hlt)).2

theorem Spec.body (hT : C.T.fits C.P) {f : FuncId} {fn : Func} {c : Code} {args : List V} {R : V → St → Prop} (hf : C.P.funcs[f]? = some fn) (hb : fn.body = some c) (hn : C.n ≤ fn.ntmps)
    (hnm : (fn.name == "runtime.NumGoroutine") = false)
    (h : W C c (initEnv 0 args) σ fun ex e' σ' => (ex = .normal ∨ ex = .ret) ∧ Fin C fn.results.toList σ.length e' σ' R) : Spec C.P f args σ R := by
  refine ⟨⟨fn, hf, hnm, by simp [hb]⟩, fun κ w xs hR hx => calls_of_wp hf hb ?_⟩
  have hsr : SR C.n κ w (initEnv 0 args) σ { tmps := xs.toArray ++ Array.replicate (fn.ntmps - xs.toArray.size) Go.undef, defers := [] } := by
    refine ⟨fun t v ht => ?_, hR, rfl, ?_⟩
    · obtain ⟨_, h1⟩ := initEnv_get args 0 t v ht
      rw [Nat.sub_zero] at h1
      have hlt : t < xs.length := by rw [← hx.1]; exact (List.getElem?_eq_some_iff.1 h1).1
      obtain ⟨h2, h3⟩ := hx.2 t v xs[t] h1 (List.getElem?_eq_getElem hlt)
      exact ⟨xs[t], by simp [Array.getElem?_append, hlt], h2, h3⟩
    · simp; omega
  refine wp_mono (h κ w _ hsr) fun x a' w' hxx => ?_
  obtain ⟨ex, e', σ', κ', rfl, ⟨hex, vs, v, r, σ'', h1, h2, h3, h4, h5⟩, hev, hs⟩ := hxx
  have fin : a'.defers = [] ∧ ∃ v, (results fn a'.tmps).run C.P w' = .ok v w' ∧
      ∃ x r κ' σ', Ending.returned v = .returned x ∧ R r σ' ∧ RV κ' w' r x ∧ r.under (alive σ') = true ∧ Evo κ w σ κ' w' σ' ∧ RS κ' w' σ' := by
    refine ⟨hs.defers, ?_⟩
    obtain ⟨ys, g1, g2⟩ := res_sound hT hs h1
    obtain ⟨y, g3, g4, g5⟩ := tupled_sound h2 g2
    have hrv : RV κ' w' r y ∧ r.under (alive σ') = true := by
      rcases h3 with rfl | h3
      · exact ⟨g4, g5⟩
      · exact ⟨snapV_sound hs.rs (fun _ _ h => h) h3 g4, snapV_under h3 g5⟩
    refine ⟨y, ?_, y, r, κ', σ'', rfl, h5, hrv.1, ?_⟩
    · unfold results
      rw [Array.mapM_eq_mapM_toList]
      have hm : (List.toArray <$> (fn.results.toList.mapM (resRun a'.tmps))).run C.P w' = .ok ys.toArray w' := by
        rw [Sem.run_map, g1]; rfl
      have he : (fun r : ResultVar => match r with
        | .tmp t => (pure (a'.tmps.getD t Go.undef) : Sem Value)
        | .cell b t => do loadVar t (← asAddr (a'.tmps.getD b Go.undef))) = resRun a'.tmps := by
        funext r; cases r <;> rfl
      refine (run_bind (a := ys.toArray) (w' := w') ?_).trans ?_
      · rw [← hm]; exact congrArg (fun g => (List.toArray <$> (fn.results.toList.mapM g)).run C.P w') he
      · rw [← g3]; rfl
    · rcases h4 with rfl | ⟨rfl, h6, h7⟩
      · exact ⟨hrv.2, hev, hs.rs⟩
      · exact ⟨h6, hev.take (Nat.le_refl _), hs.rs.take h7⟩
  rcases hex with rfl | rfl
  · exact fin
  · exact fin
end
end Go.Am
