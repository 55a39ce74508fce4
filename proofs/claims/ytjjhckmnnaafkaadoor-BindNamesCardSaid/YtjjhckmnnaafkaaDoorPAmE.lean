/- A part of a proof: functions of the program walked over the abstract machine, and what they compute. -/
import Derived.Test.YtjjhckmnnaafkaaDoorPAmD
import Derived.Laws.StructEq
set_option linter.unusedVariables false
set_option linter.unusedSimpArgs false
/- The abstract machine: every operation is sound. -/
namespace Go.Am
/-! comparing -/
section
variable {P : Program} {T : Tab} {κ : K} {w : World}
theorem eqOne_sound (hT : T.fits P) {t : TypeId} {a b : Value} {r : Bool} (h : eqOne T t a b = some r) (d : Nat) : (Op.equalIn (d + 1) t a b).run P w = .ok r w := by
  unfold eqOne at h
  split at h
  · rename_i kt k x k' y hu
    cases hk : decide (k = k') with
    | false => rw [hk] at h; simp at h
    | true =>
      rw [hk] at h; simp only [cond_true, Option.some.injEq] at h; subst h
      have := of_decide_eq_true hk; subst this
      exact run_equalIn_int w d t _ _ _ _ (Tab.und_sound hT hu)
  · rename_i hu
    injection h with h; subst h
    exact run_equalIn_bool' w d t _ _ (Tab.und_sound hT hu)
  · rename_i hu
    injection h with h; subst h
    rw [beq_toListBytes]
    exact run_equalIn_string w d t _ _ (Tab.und_sound hT hu)
  · rename_i hu
    injection h with h; subst h
    simp only [fEq_def]
    unfold Op.equalIn
    rw [run_bind (run_underlying hT hu)]; rfl
  · rename_i hu
    injection h with h; subst h
    simp only [fEq_def]
    unfold Op.equalIn
    rw [run_bind (run_underlying hT hu)]; rfl
  · simp at h
theorem eqOne_flat {t : TypeId} {a b : Value} {r : Bool} (h : eqOne T t a b = some r) : T.agg t = some false := by
  unfold eqOne at h
  unfold Tab.agg
  split at h
  · rename_i hu; rw [hu]
  · rename_i hu; rw [hu]
  · rename_i hu; rw [hu]
  · rename_i hu; rw [hu]
  · rename_i hu; rw [hu]
  · simp at h
theorem eqFs_sound (hT : T.fits P) (d : Nat) : ∀ {fs : List Field} {vs us : List Value} {r : Bool}, (∀ f ∈ fs, f.name ≠ "_") → eqFs T fs vs us = some r → (Op.eqFields (d + 1) vs.toArray us.toArray fs).run P w = .ok r w
  | [], vs, us, r, _, h => by simp only [eqFs, Option.some.injEq] at h; subst h; rfl
  | f :: fs, vs, us, r, hn, h => by
    simp only [eqFs] at h
    cases ha : vs[f.offset]? with
    | none => simp [ha] at h
    | some a =>
    cases hb : us[f.offset]? with
    | none => simp [ha, hb] at h
    | some b =>
    simp only [ha, hb] at h
    cases h1 : eqOne T f.type a b with
    | none => simp [h1] at h
    | some p =>
    cases h2 : eqFs T fs vs us with
    | none => simp [h1, h2] at h
    | some q =>
    simp only [h1, h2, Option.some.injEq] at h; subst h
    have hp : ∀ {zs : List Value} {z : Value}, zs[f.offset]? = some z → (part f.type zs.toArray f.offset).run P w = .ok z w := fun {zs z} hz => by
      unfold part
      rw [run_bind (run_isAgg hT (eqOne_flat h1))]
      simp [hz]
    rw [Op.eqFields.eq_2, if_pos (hn f (by simp)), run_bind (hp ha), run_bind (hp hb), run_bind (eqOne_sound hT h1 d)]
    cases p with
    | true => simpa using eqFs_sound hT d (fun g hg => hn g (by simp [hg])) h2
    | false => rfl
theorem Tab.eqOk_sound (hT : T.fits P) {t : TypeId} (h : T.eqOk t = true) : eqTypeOk P t = true := by
  cases T with
  | eqs l T' => exact hT.1 t (by simpa [Tab.eqOk] using h)
  | _ => simp [Tab.eqOk] at h
theorem eqVal_sound (hT : T.fits P) {t : TypeId} {fixed : Bool} {x y : V} {r : Bool} (h : eqVal T t fixed x y = some r) {a b : Value} (ha : RV κ w x a) (hb : RV κ w y b) {X Y : Operand} (op : BinOp) (hf : fixed = true → (isConst X || isConst Y) = true) :
    (eqGuard op t X Y a b).run P w = .ok () w ∧ ((binOp .eql t a b).run P w = .ok (.bool r) w ∧ (binOp .neq t a b).run P w = .ok (.bool (!r)) w) := by
  have scal : ∀ {u v : Value}, eqOne T t u v = some r → (eqGuard op t X Y u v).run P w = .ok () w ∧ ((binOp .eql t u v).run P w = .ok (.bool r) w ∧ (binOp .neq t u v).run P w = .ok (.bool (!r)) w) := by
    intro u v h
    have h2 := eqOne_sound (w := w) hT h 9999
    have heq : (Op.equal t u v).run P w = .ok r w := h2
    unfold eqOne at h
    split at h
    · rename_i kt k m k' n hu
      cases hk : decide (k = k') with
      | false => rw [hk] at h; simp at h
      | true =>
        rw [hk] at h; simp only [cond_true, Option.some.injEq] at h; subst h
        have := of_decide_eq_true hk; subst this
        refine ⟨by unfold eqGuard; split <;> rfl, ?_, ?_⟩
        · simp [binOp, Op.intCmp]
        · simp [binOp, Op.intCmp]; rfl
    · refine ⟨by unfold eqGuard; split <;> rfl, ?_, ?_⟩
      · simp only [binOp]; rw [run_bind heq]; rfl
      · simp only [binOp]; rw [run_bind heq]; rfl
    · injection h with h; subst h
      rw [beq_toListBytes]
      refine ⟨by unfold eqGuard; split <;> rfl, ?_, ?_⟩
      · simp only [binOp, Op.stringOp]; rfl
      · simp only [binOp, Op.stringOp]; rfl
    · injection h with h; subst h
      simp only [fEq_def]
      exact ⟨by unfold eqGuard; split <;> rfl, rfl, rfl⟩
    · injection h with h; subst h
      simp only [fEq_def]
      exact ⟨by unfold eqGuard; split <;> rfl, rfl, rfl⟩
    · simp at h
  unfold eqVal at h
  split at h
  · split at h
    · rename_i ms hu
      cases hfx : fixed with
      | false => rw [hfx] at h; simp at h
      | true =>
        rw [hfx] at h; simp only [cond_true, Option.some.injEq] at h; subst h
        cases ha with | one _ _ hc => cases hc with | d _ _ hd => cases hd with | sc _ _ =>
        cases hb with | one _ _ hc => cases hc with | d _ _ hd => cases hd with | sc _ _ =>
        have heq : (Op.equal t .nilIface .nilIface).run P w = .ok true w := by
          show (Op.equalIn (9999 + 1) t .nilIface .nilIface).run P w = _
          unfold Op.equalIn
          rw [run_bind (run_underlying hT hu)]; rfl
        refine ⟨?_, ?_, ?_⟩
        · have := hf hfx
          cases X <;> cases Y <;> first | (simp [isConst] at this; done) | (unfold eqGuard; cases op <;> rfl)
        · simp only [binOp]; rw [run_bind heq]; rfl
        · simp only [binOp]; rw [run_bind heq]; rfl
    · simp at h
  · cases ha with | one _ _ hc => cases hc with | d _ _ hd => cases hd with | sc _ _ =>
    cases hb with | one _ _ hc => cases hc with | d _ _ hd => cases hd with | sc _ _ =>
    exact scal h
  · rename_i ti g xs
    split at h
    · rename_i ms hu
      injection h with h; subst h
      cases hb with | one _ _ hc => cases hc with | d _ _ hd => cases hd with | sc _ _ =>
      have hi : ∃ z, a = .iface ti z := by
        cases ha with | one _ _ hc => cases hc with | d _ _ hd => cases hd <;> exact ⟨_, rfl⟩
      obtain ⟨z, rfl⟩ := hi
      have heq : (Op.equal t (.iface ti z) .nilIface).run P w = .ok false w := by
        show (Op.equalIn (9999 + 1) t (.iface ti z) .nilIface).run P w = _
        unfold Op.equalIn
        rw [run_bind (run_underlying hT hu)]; rfl
      refine ⟨by unfold eqGuard; split <;> rfl, ?_, ?_⟩
      · simp only [binOp]; rw [run_bind heq]; rfl
      · simp only [binOp]; rw [run_bind heq]; rfl
    · simp at h
  · rename_i xs ys
    cases hok : T.eqOk t with
    | false => rw [hok] at h; simp at h
    | true =>
    rw [hok] at h; simp only [cond_true] at h
    split at h
    · rename_i fs vs us hu hvs hus
      have e1 : a = .agg vs.toArray := scal_sound (v := .agg xs) (y := .agg vs.toArray) (by simp [V.scal, hvs]) ha
      have e2 : b = .agg us.toArray := scal_sound (v := .agg ys) (y := .agg us.toArray) (by simp [V.scal, hus]) hb
      subst e1; subst e2
      have hP := Tab.eqOk_sound hT hok
      have hund : P.underlying t = some (.struct fs) := Tab.und_sound hT hu
      simp only [eqTypeOk, hund, Bool.and_eq_true, Bool.not_eq_true', Array.all_eq_true, bne_iff_ne] at hP
      obtain ⟨⟨g1, g2⟩, g3⟩ := hP
      have hfo : P.fieldsOf t = fs := by simp [Program.fieldsOf, hund]
      have hrun : (Op.equalIn 10000 t (.agg vs.toArray) (.agg us.toArray)).run P w = .ok r w := by
        rw [run_equalIn_agg w 9999 t _ _ (by rw [hfo]; exact hund) g2, hfo]
        refine eqFs_sound hT 9998 (fun f hf => ?_) h
        obtain ⟨i, hi⟩ := List.mem_iff_getElem?.1 hf
        have hi' : fs[i]? = some f := by simpa using hi
        obtain ⟨hlt, he⟩ := Array.getElem?_eq_some_iff.1 hi'
        have := g3 i hlt
        rw [he] at this; exact this
      refine ⟨run_eqGuard_agg w op t X Y _ _ g1, ?_, ?_⟩
      · rw [run_eql_struct, hrun]; rfl
      · rw [run_neq_struct, hrun]; rfl
    · simp at h
  · simp at h
end
section
variable {C : Cx} {κ : K} {w : World} {σ : St} {look : Look} {nid : Nat} {ρ : Operand → Option V} {η : Operand → Value}
theorem noU_some {x : Option V} {v : V} {u : Upd} (h : noU x = some (v, u)) : x = some v ∧ u = [] := by
  cases x with
  | none => simp [noU] at h
  | some y => simp only [noU, Option.some.injEq, Prod.mk.injEq] at h; exact ⟨by rw [h.1], h.2.symm⟩
theorem noV_some {x : Option Upd} {v : V} {u : Upd} (h : noV x = some (v, u)) : x = some u ∧ v = .undef := by
  cases x with
  | none => simp [noV] at h
  | some y => simp only [noV, Option.some.injEq, Prod.mk.injEq] at h; exact ⟨by rw [h.2], h.1.symm⟩
theorem adopt_sound [HasGlob] (hT : C.T.fits C.P) (hR : RS κ w σ) {mode : Option Bool} {t : TypeId} {x v : V} {u : Upd} {y : Value} (h : adopt C.T nid mode t x = some (v, u)) (hx : RV κ w x y)
    (hu : x.under (alive σ) = true) (hn : mode.isSome = true → σ[nid]? = some .dead) : OpOk κ w σ (.ok (.value y) w) v u := by
  have _ := hT
  unfold adopt at h
  cases mode with
  | none => simp only [Option.some.injEq, Prod.mk.injEq] at h; obtain ⟨rfl, rfl⟩ := h; exact .quiet hR rfl hx hu
  | some m =>
    simp only at h
    split at h
    · cases he : C.T.elem t with
      | none => simp [he] at h
      | some e =>
      cases hs : C.T.size e with
      | none => simp [he, hs] at h
      | some n =>
      simp only [he, hs, Option.some.injEq, Prod.mk.injEq] at h; obtain ⟨rfl, rfl⟩ := h
      cases hx with | one _ _ hc => cases hc with | d _ _ hd => cases hd with | sc _ _ =>
      obtain ⟨h1, h2, h3, h4⟩ := arr_nil hR (hn rfl) n m
      exact ⟨_, w, _, .inl rfl, h3, h4, h1, h2⟩
    · simp only [Option.some.injEq, Prod.mk.injEq] at h; obtain ⟨rfl, rfl⟩ := h; exact .quiet hR rfl hx hu
theorem cells_one {xs : List V} {cs : List Cell} : xs.mapM V.cell = some cs → xs = cs.map .one := by
  induction xs generalizing cs with
  | nil => intro h; simp at h; subst h; rfl
  | cons x r ih =>
    intro h
    simp only [List.mapM_cons, Option.bind_eq_bind, Option.pure_def] at h
    cases hx : x.cell with
    | none => simp [hx] at h
    | some c =>
    cases hr : r.mapM V.cell with
    | none => simp [hx, hr] at h
    | some rs =>
    simp only [hx, hr, Option.bind_some, Option.some.injEq] at h; subst h
    cases x <;> simp only [V.cell, Option.some.injEq, reduceCtorEq] at hx
    subst hx
    rw [ih hr]; rfl
theorem mapM_sound {xs : List Operand} {L : Nat → Bool} (hρ : ∀ x v, ρ x = some v → RV κ w v (η x) ∧ v.under L = true) : ∀ {vs : List V}, xs.mapM ρ = some vs →
    vs.length = xs.length ∧ ∀ (i : Nat) (v : V), vs[i]? = some v → ∃ x, xs[i]? = some x ∧ RV κ w v (η x) ∧ v.under L = true := by
  induction xs with
  | nil => intro vs h; simp at h; subst h; exact ⟨rfl, fun i v h => by simp at h⟩
  | cons x r ih =>
    intro vs h
    simp only [List.mapM_cons, Option.bind_eq_bind, Option.pure_def] at h
    cases hx : ρ x with
    | none => simp [hx] at h
    | some v =>
    cases hr : r.mapM ρ with
    | none => simp [hx, hr] at h
    | some rs =>
    simp only [hx, hr, Option.bind_some, Option.some.injEq] at h; subst h
    obtain ⟨h1, h2⟩ := ih hr
    refine ⟨by simp [h1], fun i u hu => ?_⟩
    cases i with
    | zero => simp at hu; subst hu; exact ⟨x, rfl, hρ x v hx⟩
    | succ i => simpa using h2 i u (by simpa using hu)
theorem bound_sound {x : Option Operand} {b : Option Int} (hρ : ∀ x v, ρ x = some v → RV κ w v (η x)) (h : bound ρ x = some b) : isBound b (x.map η) := by
  cases x with
  | none => simp only [bound, Option.some.injEq] at h; subst h; trivial
  | some x =>
    simp only [bound] at h
    cases hx : ρ x with
    | none => simp [hx] at h
    | some v =>
    simp only [hx] at h
    cases hi : v.int with
    | none => simp [hi] at h
    | some n =>
    simp only [hi, Option.some.injEq] at h; subst h
    have := hρ x v hx
    unfold V.int at hi
    split at hi
    · injection hi with hi; subst hi
      cases this with | one _ _ hc => cases hc with | d _ _ hd =>
      generalize hy : η x = y at hd
      cases hd with | sc _ _ => simp [isBound, hy]
    · simp at hi
theorem exec_builtin (P : Program) (η : Operand → Value) (dst : Option Tmp) (b : Builtin) (xs : Array Operand) (ts : Array TypeId) (type : TypeId) (pos : String) (after : Array Edge) (guard : Option (Nat × Bool)) :
    ∃ cs, (execOp η { dst, op := .call { callee := .builtin b, args := xs, argTypes := ts }, type, pos, after, guard }).run P w = (builtin b ts type cs (xs.map η)).run P w := ⟨_, rfl⟩
theorem RV_int {κ : K} {w : World} {k : IntKind} {a : Int} {z : Value} (h : RV κ w (.one (.d (.sc (.int k a)))) z) : z = .int k a := by
  cases h with | one _ _ hc => cases hc with | d _ _ hd => cases hd with | sc _ _ => rfl
theorem core_sound [HasGlob] (hT : C.T.fits C.P) (hR : RS κ w σ) (hl : Sees σ look) {o : Oper} (hρ : ∀ x v, ρ x = some v → RV κ w v (η x) ∧ v.under (alive σ) = true)
    (hn : makes C o = true → σ[nid]? = some .dead) {v : V} {u : Upd} (h : core C nid ρ look o = some (v, u)) : OpOk κ w σ ((execOp η o).run C.P w) v u := by
  have hρ' : ∀ x v, ρ x = some v → RV κ w v (η x) := fun x v h => (hρ x v h).1
  have scal : ∀ {v u}, noU (scalOp C.P ρ o) = some (v, u) → OpOk κ w σ ((execOp η o).run C.P w) v u := by
    intro v u h
    obtain ⟨h1, rfl⟩ := noU_some h
    obtain ⟨y, h2, h3, h4⟩ := scalOp_sound (w := w) hρ' h1
    exact .quiet hR h2 h3 (h4 _)
  obtain ⟨dst, op, type, pos, after, guard⟩ := o
  unfold core at h
  simp only at h
  unfold makes at hn
  simp only at hn
  split at h
  · -- move
    rename_i x
    cases hx : ρ x with
    | none => simp [hx] at h
    | some a => simp only [hx] at h; exact adopt_sound hT hR h (hρ x a hx).1 (hρ x a hx).2 hn
  · rename_i x
    cases hx : ρ x with
    | none => simp [hx] at h
    | some a => simp only [hx] at h; exact adopt_sound hT hR h (hρ x a hx).1 (hρ x a hx).2 hn
  · -- pick
    rename_i c a b
    split at h
    · rename_i t hc
      have hcb := hρ' c _ hc
      have hbool : η c = .bool t := by
        generalize hy : η c = y at hcb
        cases hcb with | one _ _ hc => cases hc with | d _ _ hd => cases hd with | sc _ _ => rfl
      cases t with
      | true =>
        simp only [cond_true] at h
        obtain ⟨h1, rfl⟩ := noU_some h
        exact .quiet hR (by simp only [execOp, hbool]; rfl) (hρ a v h1).1 (hρ a v h1).2
      | false =>
        simp only [cond_false] at h
        obtain ⟨h1, rfl⟩ := noU_some h
        exact .quiet hR (by simp only [execOp, hbool]; rfl) (hρ b v h1).1 (hρ b v h1).2
    · simp at h
  · -- alloc
    rename_i t
    cases hz : zeroCells C.T t with
    | none => simp [hz] at h
    | some z =>
    simp only [hz, Option.some.injEq, Prod.mk.injEq] at h; obtain ⟨rfl, rfl⟩ := h
    obtain ⟨zv, hz1, rfl, hz2⟩ := zeroCells_of hz
    have hrun : (Instr.alloc t true (.tuple #[])).run C.P w = .ok (.pointer (some ⟨w.heap.size, 0, none⟩)) (alloc w (.cells zv.cells t)) := by
      unfold Instr.alloc
      rw [run_bind (run_zeroValue hT hz1)]
      simp only
      rw [run_bind (run_newVar t zv)]; rfl
    obtain ⟨h1, h2, h3, h4⟩ := var_made (nid := nid) hR (hn rfl) (Grew.alloc w (.cells zv.cells t)) (RCs.ofCells hz2) (underAll_ofCells _)
    exact ⟨_, _, _, .inl (by simp only [execOp]; rw [run_bind hrun]; rfl), h3, h4, h1, h2⟩
  · -- box
    rename_i t x
    cases hx : ρ x with
    | none => simp [hx] at h
    | some a =>
    simp only [hx] at h
    cases hc : a.cells with
    | none => simp [hc] at h
    | some cs =>
    simp only [hc, Option.some.injEq, Prod.mk.injEq] at h; obtain ⟨rfl, rfl⟩ := h
    have hrun : (Instr.box t (η x)).run C.P w = .ok (.pointer (some ⟨w.heap.size, 0, none⟩)) (alloc w (.cells (η x).cells t)) := by
      unfold Instr.box
      rw [run_bind (run_newVar t (η x))]; rfl
    obtain ⟨h1, h2, h3, h4⟩ := var_made (nid := nid) hR (hn rfl) (Grew.alloc w (.cells (η x).cells t)) (cells_sound (hρ x a hx).1 hc) (cells_under (hρ x a hx).2 hc)
    exact ⟨_, _, _, .inl (by simp only [execOp]; rw [run_bind hrun]; rfl), h3, h4, h1, h2⟩
  · -- load
    rename_i t a
    split at h
    · rename_i c hc
      obtain ⟨h1, rfl⟩ := noU_some h
      have hav := (hρ a _ hc).1
      generalize hy : η a = y at hav
      cases hav with | one _ _ hcc =>
      obtain ⟨z, h2, h3, h4⟩ := load_sound (P := C.P) hT hR hl h1 hcc
      exact .quiet hR (by simp only [execOp, hy]; rw [run_bind h2]; rfl) h3 h4
    · simp at h
  · -- store
    rename_i t a x
    split at h
    · rename_i c xv hc hx
      cases hcs : xv.cells with
      | none => simp [hcs] at h
      | some cs =>
      simp only [hcs] at h
      obtain ⟨h1, rfl⟩ := noV_some h
      have hav := (hρ a _ hc).1
      generalize hy : η a = y at hav
      cases hav with | one _ _ hcc =>
      have := store_sound (P := C.P) hT hR hl h1 hcc (hρ x _ hx).1 hcs (hρ x _ hx).2
      simp only [execOp, hy]; exact this
    · simp at h
  · -- nilCheck
    rename_i x
    cases hx : ρ x with
    | none => simp [hx] at h
    | some a =>
    simp only [hx] at h
    obtain ⟨h1, rfl⟩ := noU_some h
    obtain ⟨h2, rfl⟩ := nilChecked_sound (P := C.P) (w := w) (o := { dst, op := .nilCheck x, type, pos, after, guard }) rfl rfl h1 (hρ x a hx).1
    exact .quiet hR h2 (hρ x _ hx).1 (hρ x _ hx).2
  · -- fieldAddr
    rename_i t x f
    cases hx : ρ x with
    | none => simp [hx] at h
    | some a =>
    simp only [hx] at h
    obtain ⟨h1, rfl⟩ := noU_some h
    obtain ⟨z, h2, h3, h4⟩ := fieldAddr_sound (P := C.P) hT h1 (hρ x a hx).1 (hρ x a hx).2
    exact .quiet hR (by simp only [execOp]; rw [run_bind h2]; rfl) h3 h4
  · -- field
    rename_i t x f
    cases hx : ρ x with
    | none => simp [hx] at h
    | some a =>
    simp only [hx] at h
    obtain ⟨h1, rfl⟩ := noU_some h
    obtain ⟨z, h2, h3, h4⟩ := fieldOf_sound (P := C.P) hT h1 (hρ x a hx).1 (hρ x a hx).2
    exact .quiet hR (by simp only [execOp]; rw [run_bind h2]; rfl) h3 h4
  · -- indexAddr
    rename_i t x i
    split at h
    · rename_i xv k n hx hi
      obtain ⟨h1, rfl⟩ := noU_some h
      have hiv := (hρ i _ hi).1
      generalize hy : η i = y at hiv
      cases hiv with | one _ _ hc => cases hc with | d _ _ hd => cases hd with | sc _ _ =>
      obtain ⟨z, h2, h3, h4⟩ := indexAddr_sound (P := C.P) (k := k) hT hR hl h1 (hρ x _ hx).1 (hρ x _ hx).2
      exact .quiet hR (by simp only [execOp, hy]; rw [run_bind h2]; rfl) h3 h4
    · simp at h
  · -- index
    rename_i t x i
    split at h
    · rename_i xv k n hx hi
      obtain ⟨h1, rfl⟩ := noU_some h
      have hiv := (hρ i _ hi).1
      generalize hy : η i = y at hiv
      cases hiv with | one _ _ hc => cases hc with | d _ _ hd => cases hd with | sc _ _ =>
      obtain ⟨z, h2, h3, h4⟩ := indexOf_sound (P := C.P) (k := k) hT h1 (hρ x _ hx).1 (hρ x _ hx).2
      exact .quiet hR (by simp only [execOp, hy]; rw [run_bind h2]; rfl) h3 h4
    · simp at h
  · -- extract
    rename_i x k
    split at h
    · rename_i xs hx
      cases hk : xs[k]? with
      | none => simp [hk] at h
      | some f =>
      simp only [hk, Option.some.injEq, Prod.mk.injEq] at h; obtain ⟨rfl, rfl⟩ := h
      obtain ⟨hv, hu⟩ := hρ x _ hx
      generalize hy : η x = y at hv
      cases hv with | tup _ vs hlen hall =>
      have hlt : k < vs.size := by have := (List.getElem?_eq_some_iff.1 hk).1; omega
      have hf := hall k f vs[k] hk (Array.getElem?_eq_getElem hlt)
      refine .quiet hR (x := vs[k]) ?_ hf.toV ?_
      · simp only [execOp, hy]
        have : (Instr.extract (.tuple vs) k).run C.P w = .ok vs[k] w := by
          simp only [Instr.extract, Array.getElem?_eq_getElem hlt]; rfl
        rw [run_bind this]; rfl
      · simp only [V.under, List.all_eq_true] at hu
        exact (FV.v_under).trans (hu f (List.mem_of_getElem? hk))
    · simp at h
  · -- slice
    rename_i t x lo hi
    split at h
    · rename_i xv l q hx hlo hhi
      have := slice_sound (P := C.P) hT hR hl h (hρ x _ hx).1 (hρ x _ hx).2 (bound_sound hρ' hlo) (bound_sound hρ' hhi)
      simpa only [execOp, Option.map_none] using this
    · simp at h
  · -- build
    rename_i t parts
    cases hp : partsOf ρ parts.toList with
    | none => simp [hp] at h
    | some qs =>
    simp only [hp] at h
    cases hb : buildOf C.T t qs with
    | none => simp [hb] at h
    | some cs =>
    simp only [hb, Option.some.injEq, Prod.mk.injEq] at h; obtain ⟨rfl, rfl⟩ := h
    obtain ⟨h1, h2⟩ := parts_sound (κ := κ) (w := w) (η := η) hρ hp
    obtain ⟨c, h3, h4, h5⟩ := build_sound (P := C.P) hT hb (ps := parts.map fun (i, x) => (i, η x)) (by simpa using h1) h2
    exact .quiet hR (by simp only [execOp]; rw [run_bind h3]; rfl) (.agg _ _ h4) h5
  · -- buildSlice
    rename_i t len parts
    cases hp : partsOf ρ parts.toList with
    | none => simp [hp] at h
    | some qs =>
    simp only [hp] at h
    cases hb : buildSliceOf C.T t len qs look with
    | none => simp [hb] at h
    | some r =>
    obtain ⟨n, rows⟩ := r
    simp only [hb] at h
    obtain ⟨h1, h2⟩ := parts_sound (κ := κ) (w := w) (η := η) hρ hp
    obtain ⟨c, E, h3, h4, h5, h6⟩ := buildSlice_run (P := C.P) hT hR hl hb (ps := parts.map fun (i, x) => (i, η x)) (by simpa using h1)
    exact arr_or_list hR (by simp only [execOp]; rw [run_bind h3]; rfl) (Grew.alloc w _) h4 h5 h6 hn h
  · -- makeInterface
    rename_i t x
    split at h
    · rename_i a hi hx
      obtain ⟨h1, rfl⟩ := noU_some h
      obtain ⟨h2, h3, h4⟩ := iface_sound (P := C.P) hT hR hl hi h1 (hρ x _ hx).1
      exact .quiet hR (by simp only [execOp]; rw [run_bind h2]; rfl) h3 (h4 _)
    · simp at h
  · -- makeFunc
    rename_i f first captured
    cases hf : first.toList.mapM ρ with
    | none => simp [hf] at h
    | some fs =>
    cases hc : captured.toList.mapM ρ with
    | none => simp [hf, hc] at h
    | some cs =>
    simp only [hf, hc] at h
    cases hf1 : fs.mapM V.cell with
    | none => simp [hf1] at h
    | some fs' =>
    cases hc1 : cs.mapM V.cell with
    | none => simp [hf1, hc1] at h
    | some cs' =>
    simp only [hf1, hc1, Option.some.injEq, Prod.mk.injEq] at h; obtain ⟨rfl, rfl⟩ := h
    have hfe := cells_one hf1
    have hce := cells_one hc1
    subst hfe; subst hce
    obtain ⟨h1, h2⟩ := mapM_sound (κ := κ) (w := w) (η := η) hρ hf
    obtain ⟨h3, h4⟩ := mapM_sound (κ := κ) (w := w) (η := η) hρ hc
    have key : ∀ (ops : Array Operand) (cs : List Cell), (∀ (i : Nat) (v : V), (cs.map V.one)[i]? = some v → ∃ x, ops.toList[i]? = some x ∧ RV κ w v (η x) ∧ v.under (alive σ) = true) →
        (∀ (i : Nat) (c : Cell), cs[i]? = some c → RC κ w c ((ops.map η).getD i undef)) ∧ underAll (alive σ) cs = true := by
      intro ops cs hall
      refine ⟨fun i c hi => ?_, underAll_of fun i c hi => ?_⟩
      · obtain ⟨x, hx, hv, _⟩ := hall i (.one c) (by simp [hi])
        cases hv with | one _ _ hrc =>
        obtain ⟨hlt, hx'⟩ := Array.getElem?_eq_some_iff.1 (by rw [Array.getElem?_toList] at hx; exact hx)
        simpa [hlt, hx'] using hrc
      · obtain ⟨x, _, _, hu⟩ := hall i (.one c) (by simp [hi])
        exact hu
    obtain ⟨k1, k2⟩ := key first fs' h2
    obtain ⟨k3, k4⟩ := key captured cs' h4
    refine .quiet hR (x := .func f (first.map η) (captured.map η)) ?_ (.one _ _ (.fn _ _ _ _ _ (by simpa using h1) (by simpa using h3) k1 k3)) ?_
    · simp only [execOp]; rfl
    · simp only [V.under, Cell.under, k2, k4, Bool.and_self]
  · -- typeAssert
    rename_i x xt t ok
    cases hx : ρ x with
    | none => simp [hx] at h
    | some a =>
    simp only [hx] at h
    obtain ⟨h1, rfl⟩ := noU_some h
    obtain ⟨z, h2, h3, h4⟩ := assert_sound (P := C.P) (xt := xt) hT h1 (hρ x a hx).1
    exact .quiet hR (by simp only [execOp]; rw [run_bind h2]; rfl) h3 (h4 _)
  · -- lookup
    rename_i t m k ok
    split at h
    · rename_i mv kv hm hk
      obtain ⟨h1, rfl⟩ := noU_some h
      obtain ⟨z, h2, h3, h4⟩ := lookup_sound (P := C.P) hT hR hl h1 (hρ m _ hm).1 (hρ k _ hk).1
      exact .quiet hR (by simp only [execOp]; rw [run_bind h2]; rfl) h3 h4
    · simp at h
  · -- mapUpdate
    rename_i t m k x
    split at h
    · rename_i mv kv xv hm hk hx
      obtain ⟨h1, rfl⟩ := noV_some h
      have := update_sound (P := C.P) hT hR hl h1 (hρ m _ hm).1 (hρ k _ hk).1 (hρ x _ hx).1 (hρ x _ hx).2
      simp only [execOp]; exact this
    · simp at h
  · -- makeMap
    rename_i t
    simp only [Option.some.injEq, Prod.mk.injEq] at h; obtain ⟨rfl, rfl⟩ := h
    have hrun : (Instr.makeMap t none).run C.P w = .ok (.map (some w.heap.size)) (alloc w (.map #[] 0)) := rfl
    obtain ⟨h1, h2, h3, h4⟩ := map_made (nid := nid) hR (hn rfl) (Grew.alloc w (.map #[] 0))
    exact ⟨_, _, _, .inl (by simp only [execOp, Option.map_none]; rw [run_bind hrun]; rfl), h3, h4, h1, h2⟩
  · -- makeSlice
    rename_i t l c
    split at h
    · rename_i kl lv kc cv hlv hcv
      have h1 := (hρ l _ hlv).1
      have h2 := (hρ c _ hcv).1
      generalize hy : η l = y at h1
      generalize hz : η c = z at h2
      cases h1 with | one _ _ hc => cases hc with | d _ _ hd => cases hd with | sc _ _ =>
      cases h2 with | one _ _ hc => cases hc with | d _ _ hd => cases hd with | sc _ _ =>
      have := makeSlice_sound (P := C.P) (kl := kl) (kc := kc) hT hR h hn
      simp only [execOp, hy, hz]; exact this
    · simp at h
  · -- convert
    rename_i src dst' x
    cases hx : ρ x with
    | none => simp [hx] at h
    | some a =>
    simp only [hx] at h
    cases hc : convertOf C.T src dst' a look with
    | none => simp only [hc] at h; exact scal h
    | some y =>
    simp only [hc, Option.some.injEq, Prod.mk.injEq] at h; obtain ⟨rfl, rfl⟩ := h
    have hav := (hρ x a hx).1
    generalize hy : η x = z at hav
    unfold convertOf at hc
    split at hc
    · rename_i e hsrc hdst
      split at hc
      · rename_i s he
        injection hc with hc; subst hc
        cases hav with | one _ _ hc => cases hc with | d _ _ hd => cases hd with | sc _ _ =>
        obtain ⟨cap, c, f, w', h1, h2, h3, h4⟩ := string_bytes (P := C.P) (κ := κ) (e := e) hR s
        have hlen : (s.data.toList.map fun b => ([D.sc (.int .u8 b.toNat)] : List D)).length = s.size := by simp
        obtain ⟨g1, g2, g3⟩ := list_made (cap := cap) hR h2 (by rw [hlen]; exact h3) (fun r hr => by obtain ⟨b, _, rfl⟩ := List.mem_map.1 hr; rfl) h4
        rw [hlen] at g1 g2 g3
        have hrun : (convert src dst' (.string s)).run C.P w = .ok (.slice (some ⟨w.heap.size, 0, none⟩) s.size cap) w' := by
          unfold convert
          rw [run_bind (run_underlying hT hsrc), run_bind (run_underlying hT hdst)]
          simp only
          rw [run_bind (run_underlying hT he)]
          exact h1
        exact ⟨_, _, _, .inl (by simp only [execOp, hy]; rw [run_bind hrun]; rfl), .one _ _ (.d _ _ g3), rfl, g1, g2⟩
      · simp at hc
    · rename_i e hsrc hdst
      split at hc
      · rename_i rows he hrows
        split at hc
        · simp at hc
        · rename_i bs hns hb
          injection hc with hc; subst hc
          have h1 := bytes_string (P := C.P) hR hl hrows hb hav (fun s hs => hns s hs)
          have hrun : (convert src dst' z).run C.P w = .ok (.string ⟨bs.toArray⟩) w := by
            unfold convert
            rw [run_bind (run_underlying hT hsrc), run_bind (run_underlying hT hdst)]
            have hz : ∃ a n c, z = .slice a n c := by
              unfold rowsIn at hrows
              split at hrows
              · cases hav with | one _ _ hc => cases hc with | d _ _ hd => cases hd <;> exact ⟨_, _, _, rfl⟩
              · cases hav with | one _ _ hc => cases hc with | d _ _ hd => cases hd with | sc _ _ => exact ⟨_, _, _, rfl⟩
              · exact absurd rfl (fun e => hns _ e)
              · cases hav with | one _ _ hc => cases hc with | arr _ _ _ a cap hs => exact ⟨_, _, _, rfl⟩
              · simp at hrows
            obtain ⟨za, zn, zc, rfl⟩ := hz
            simp only
            rw [run_bind (run_underlying hT he)]
            exact h1
          exact .quiet hR (by simp only [execOp, hy]; rw [run_bind hrun]; rfl) (.one _ _ (.d _ _ (.sc _ rfl))) rfl
        · simp at hc
      · simp at hc
    · rename_i k k' hsrc hdst
      split at hc
      · rename_i k0 n
        injection hc with hc; subst hc
        cases hav with | one _ _ hc => cases hc with | d _ _ hd => cases hd with | sc _ _ =>
        have hrun : (convert src dst' (.int k0 n)).run C.P w = .ok (.int k' (k'.wrap n)) w := by
          unfold convert
          rw [run_bind (run_underlying hT hsrc), run_bind (run_underlying hT hdst)]; rfl
        exact .quiet hR (by simp only [execOp, hy]; rw [run_bind hrun]; rfl) (.one _ _ (.d _ _ (.sc _ rfl))) rfl
      · simp at hc
    · simp at hc
  · -- binOp
    rename_i op t x y yt
    split at h
    · rename_i a b hx hy
      split at h
      · split at h
        · rename_i r hr
          simp only [Option.some.injEq, Prod.mk.injEq] at h; obtain ⟨rfl, rfl⟩ := h
          obtain ⟨hg, heq⟩ := eqVal_sound (κ := κ) (w := w) hT hr (hρ x _ hx).1 (hρ y _ hy).1 .eql (fun h => h)
          refine .quiet hR (x := .bool r) ?_ (.one _ _ (.d _ _ (.sc _ rfl))) rfl
          simp only [execOp]
          rw [Sem.run_bind, Sem.run_bind, hg]
          simp only [Result.andThen]
          rw [heq.1]; rfl
        · exact scal h
      · split at h
        · rename_i r hr
          simp only [Option.some.injEq, Prod.mk.injEq] at h; obtain ⟨rfl, rfl⟩ := h
          obtain ⟨hg, heq⟩ := eqVal_sound (κ := κ) (w := w) hT hr (hρ x _ hx).1 (hρ y _ hy).1 .neq (fun h => h)
          refine .quiet hR (x := .bool (!r)) ?_ (.one _ _ (.d _ _ (.sc _ rfl))) rfl
          simp only [execOp]
          rw [Sem.run_bind, Sem.run_bind, hg]
          simp only [Result.andThen]
          rw [heq.2]; rfl
        · exact scal h
      · exact scal h
    · simp at h
  · -- len
    rename_i xs ts
    split at h
    · rename_i x t hxs hts
      cases hx : ρ x with
      | none => simp [hx] at h
      | some a =>
      simp only [hx] at h
      cases hlen : lenOf C.T t look a with
      | none => simp [hlen] at h
      | some n =>
      simp only [hlen, Option.some.injEq, Prod.mk.injEq] at h; obtain ⟨rfl, rfl⟩ := h
      have hxa : xs = #[x] := by apply Array.ext'; simpa using hxs
      have hta : ts = #[t] := by apply Array.ext'; simpa using hts
      subst hxa; subst hta
      have h1 := len_sound (P := C.P) (ty := type) hT hR hl hlen (hρ x a hx).1
      refine .quiet hR (x := .int .i64 n) ?_ (.one _ _ (.d _ _ (.sc _ rfl))) rfl
      obtain ⟨cs, e⟩ := exec_builtin (w := w) C.P η dst .len #[x] #[t] type pos after guard
      rw [e, show (#[x] : Array Operand).map η = #[η x] from by simp]
      show (do pure (Next.value (← Builtin.len_ #[t] type #[η x])) : Sem Next).run C.P w = _
      rw [run_bind h1]; rfl
    · simp at h
  · -- append
    rename_i xs ts
    split at h
    · rename_i s x t t' hxs hts
      have hxa : xs = #[s, x] := by apply Array.ext'; simpa using hxs
      have hta : ts = #[t, t'] := by apply Array.ext'; simpa using hts
      subst hxa; subst hta
      have fin : ∀ {sv xv : V}, ρ s = some sv → ρ x = some xv → notInt C.T t' → appendOf C.T nid (arMode C.ar dst) t sv xv look = some (v, u) →
          OpOk κ w σ ((execOp η { dst, op := .call { callee := .builtin .append, args := #[s, x], argTypes := #[t, t'] }, type, pos, after, guard }).run C.P w) v u := by
        intro sv xv hs hx hni h
        have := append_sound (P := C.P) (ty := type) hT hR hl h (hρ s sv hs).1 (hρ x xv hx).1 hni hn
        obtain ⟨cs, e⟩ := exec_builtin (w := w) C.P η dst .append #[s, x] #[t, t'] type pos after guard
        rw [e, show (#[s, x] : Array Operand).map η = #[η s, η x] from by simp]; exact this
      split at h
      · rename_i sv xv e hs hx ht'
        exact fin hs hx ⟨_, ht', by simp⟩ h
      · rename_i sv xv hs hx ht'
        exact fin hs hx ⟨_, ht', by simp⟩ h
      · simp at h
    · simp at h
  · -- delete
    rename_i xs ts
    split at h
    · rename_i m k t t' hxs hts
      have hxa : xs = #[m, k] := by apply Array.ext'; simpa using hxs
      have hta : ts = #[t, t'] := by apply Array.ext'; simpa using hts
      subst hxa; subst hta
      split at h
      · rename_i mv kv hm hk
        cases hd : deleteOf C.T t mv kv look with
        | none => simp [hd] at h
        | some u' =>
        simp only [hd, Option.some.injEq, Prod.mk.injEq] at h; obtain ⟨rfl, rfl⟩ := h
        have := delete_sound (P := C.P) (ty := type) (t' := t') hT hR hl hd (hρ m _ hm).1 (hρ k _ hk).1
        obtain ⟨cs, e⟩ := exec_builtin (w := w) C.P η dst .delete #[m, k] #[t, t'] type pos after guard
        rw [e, show (#[m, k] : Array Operand).map η = #[η m, η k] from by simp]; exact this
      · simp at h
    · simp at h
  · -- max
    rename_i xs ts
    split at h
    · rename_i x y hxs
      have hxa : xs = #[x, y] := by apply Array.ext'; simpa using hxs
      subst hxa
      split at h
      · rename_i k a k' b hx hy
        simp only [Option.some.injEq, Prod.mk.injEq] at h; obtain ⟨rfl, rfl⟩ := h
        have h1 := (hρ x _ hx).1
        have h2 := (hρ y _ hy).1
        have ex : η x = .int k a := RV_int h1
        have ey : η y = .int k' b := RV_int h2
        refine .quiet hR (x := .int k (if b > a then b else a)) ?_ (.one _ _ (.d _ _ (.sc _ rfl))) rfl
        obtain ⟨cs, e⟩ := exec_builtin (w := w) C.P η dst .max #[x, y] ts type pos after guard
        rw [e, show (#[x, y] : Array Operand).map η = #[η x, η y] from by simp, ex, ey]
        rfl
      · simp at h
    · simp at h
  · -- min
    rename_i xs ts
    split at h
    · rename_i x y hxs
      have hxa : xs = #[x, y] := by apply Array.ext'; simpa using hxs
      subst hxa
      split at h
      · rename_i k a k' b hx hy
        simp only [Option.some.injEq, Prod.mk.injEq] at h; obtain ⟨rfl, rfl⟩ := h
        have h1 := (hρ x _ hx).1
        have h2 := (hρ y _ hy).1
        have ex : η x = .int k a := RV_int h1
        have ey : η y = .int k' b := RV_int h2
        refine .quiet hR (x := .int k (if b < a then b else a)) ?_ (.one _ _ (.d _ _ (.sc _ rfl))) rfl
        obtain ⟨cs, e⟩ := exec_builtin (w := w) C.P η dst .min #[x, y] ts type pos after guard
        rw [e, show (#[x, y] : Array Operand).map η = #[η x, η y] from by simp, ex, ey]
        rfl
      · simp at h
    · simp at h
  · exact scal h
end
end Go.Am
/- The abstract machine: code. A judgement on code (W), its rules; the judgement on a region's operations (WO) in the order of the text. -/
namespace Go.Am
inductive Ex where
  | normal
  | exit (id : Nat)
  | ret
  deriving DecidableEq
def Ex.to : Ex → Exit
  | .normal => .normal
  | .exit id => .exit id
  | .ret => .ret
/-- the state here and there -/
structure SR [HasGlob] (N : Nat) (κ : K) (w : World) (e : Env) (σ : St) (a : Act) : Prop where
  env : ∀ t v, Env.get e t = some v → ∃ x, a.tmps[t]? = some x ∧ RV κ w v x ∧ v.under (alive σ) = true
  rs : RS κ w σ
  defers : a.defers = []
  size : N ≤ a.tmps.size
/-- code, begun in a state, ends in one of which Q holds -/
def W [HasGlob] (C : Cx) (c : Code) (e : Env) (σ : St) (Q : Ex → Env → St → Prop) : Prop :=
  ∀ κ w a, SR C.n κ w e σ a → c.wp C.P (fun x a' w' => ∃ ex e' σ' κ', x = Ex.to ex ∧ Q ex e' σ' ∧ Evo κ w σ κ' w' σ' ∧ SR C.n κ' w' e' σ' a') a w
theorem ev_sound [HasGlob] {N κ w e σ a} (h : SR N κ w e σ a) {x : Operand} {v : V} (hv : ev e x = some v) : RV κ w v (a.eval x) ∧ v.under (alive σ) = true := by
  cases x with
  | tmp t =>
    obtain ⟨y, h1, h2, h3⟩ := h.env t v hv
    have : a.eval (.tmp t) = y := by simp [Act.eval, h1]
    rw [this]; exact ⟨h2, h3⟩
  | const c =>
    obtain ⟨h1, h2⟩ := ofValue_sound (κ := κ) (w := w) hv
    exact ⟨h1, h2 _⟩
  | global g =>
    obtain ⟨h1, h2⟩ := globV_sound h.rs.glob (show globV g = some v from hv)
    exact ⟨h1, h2 _⟩
  | func f =>
    simp only [ev, Option.some.injEq] at hv; subst hv
    exact ⟨.one _ _ (.fn _ _ _ _ _ rfl rfl (fun i c h => by simp at h) (fun i c h => by simp at h)), rfl⟩
theorem Env.get_set (e : Env) (t : Nat) (v : V) (s : Nat) : Env.get (Env.set e t v) s = if s = t then some v else Env.get e s := by
  simp only [Env.set, Env.get]
  by_cases h : s = t
  · subst h; simp
  · have : Nat.beq t s = false := by rw [Bool.eq_false_iff]; intro hb; exact h (Nat.eq_of_beq_eq_true hb).symm
    simp [h, this]
theorem SR.put [HasGlob] {N κ w e σ a κ' w' σ'} (h : SR N κ w e σ a) (hs : Stays κ w κ' w' (alive σ)) (hl : ∀ id, alive σ id = true → alive σ' id = true) (hR : RS κ' w' σ') {dst : Option Nat} {v : V} {x : Value}
    (hv : RV κ' w' v x) (hu : v.under (alive σ') = true) (hd : ∀ t, dst = some t → t < N) : SR N κ' w' (Env.put e dst v) σ' (a.put dst x) := by
  refine ⟨fun t u ht => ?_, hR, ?_, ?_⟩
  · cases dst with
    | none =>
      obtain ⟨y, h1, h2, h3⟩ := h.env t u ht
      exact ⟨y, h1, h2.stays hs h3, V.under_mono hl h3⟩
    | some d =>
      simp only [Env.put, Env.get_set] at ht
      simp only [Act.put]
      split at ht
      · rename_i heq; subst heq
        injection ht with ht; subst ht
        exact ⟨x, by simp [Nat.lt_of_lt_of_le (hd t rfl) h.size], hv, hu⟩
      · rename_i hne
        obtain ⟨y, h1, h2, h3⟩ := h.env t u ht
        exact ⟨y, by rw [Array.getElem?_setIfInBounds_ne (fun e => hne e.symm)]; exact h1, h2.stays hs h3, V.under_mono hl h3⟩
  · cases dst <;> exact h.defers
  · cases dst <;> simpa [Act.put] using h.size
section
variable {C : Cx} {e : Env} {σ : St} {Q : Ex → Env → St → Prop}
theorem W.mono [HasGlob] {c : Code} {Q' : Ex → Env → St → Prop} (h : W C c e σ Q) (hq : ∀ ex e σ, Q ex e σ → Q' ex e σ) : W C c e σ Q' :=
  fun κ w a hs => wp_mono (h κ w a hs) fun _ _ _ ⟨ex, e', σ', κ', h1, h2, h3⟩ => ⟨ex, e', σ', κ', h1, hq _ _ _ h2, h3⟩
theorem W.skip [HasGlob] (h : Q .normal e σ) : W C .skip e σ Q := fun κ w a hs => wp_skip ⟨.normal, e, σ, κ, rfl, h, .refl, hs⟩
theorem W.ret [HasGlob] (h : Q .ret e σ) : W C .ret e σ Q := fun κ w a hs => wp_ret ⟨.ret, e, σ, κ, rfl, h, .refl, hs⟩
theorem W.exit [HasGlob] {id : Nat} (h : Q (.exit id) e σ) : W C (.exit id) e σ Q := fun κ w a hs => wp_exit ⟨.exit id, e, σ, κ, rfl, h, .refl, hs⟩
/-- what follows behind a piece of code -/
def next [HasGlob] (C : Cx) (b : Code) (Q : Ex → Env → St → Prop) : Ex → Env → St → Prop
  | .normal, e, σ => W C b e σ Q
  | .exit id, e, σ => Q (.exit id) e σ
  | .ret, e, σ => Q .ret e σ
theorem W.later [HasGlob] {κ w κ' w' σ' e' a' c} (hev : Evo κ w σ κ' w' σ') (h : W C c e' σ' Q) (hs : SR C.n κ' w' e' σ' a') :
    c.wp C.P (fun x a'' w'' => ∃ ex e'' σ'' κ'', x = Ex.to ex ∧ Q ex e'' σ'' ∧ Evo κ w σ κ'' w'' σ'' ∧ SR C.n κ'' w'' e'' σ'' a'') a' w' := by
  exact wp_mono (h κ' w' a' hs) fun _ _ _ ⟨ex, e'', σ'', κ'', h1, h2, h3, h4⟩ => ⟨ex, e'', σ'', κ'', h1, h2, hev.trans h3, h4⟩
theorem W.seq [HasGlob] {x y : Code} (h : W C x e σ (next C y Q)) : W C (.seq x y) e σ Q := by
  intro κ w a hs
  refine wp_seq (wp_mono (h κ w a hs) fun x' a' w' hx => ?_)
  obtain ⟨ex, e', σ', κ', rfl, hq, hev, hs'⟩ := hx
  cases ex with
  | normal => exact W.later hev hq hs'
  | exit id => exact ⟨.exit id, e', σ', κ', rfl, hq, hev, hs'⟩
  | ret => exact ⟨.ret, e', σ', κ', rfl, hq, hev, hs'⟩
theorem W.cond [HasGlob] {c : Operand} {x y : Code} {t : Bool} (hc : ev e c = some (bool t)) (h : W C (bif t then x else y) e σ Q) : W C (.cond c x y) e σ Q := by
  intro κ w a hs
  obtain ⟨hv, _⟩ := ev_sound hs hc
  have : a.eval c = .bool t := by
    generalize hy : a.eval c = z at hv
    cases hv with | one _ _ h => cases h with | d _ _ hd => cases hd with | sc _ _ => rfl
  refine wp_cond this ?_
  cases t <;> exact h κ w a hs
/-- out of a block -/
def leave (id : Nat) (Q : Ex → Env → St → Prop) : Ex → Env → St → Prop
  | .normal, e, σ => Q .normal e σ
  | .exit i, e, σ => bif Nat.beq i id then Q .normal e σ else Q (.exit i) e σ
  | .ret, e, σ => Q .ret e σ
theorem W.block [HasGlob] {id : Nat} {c : Code} (h : W C c e σ (leave id Q)) : W C (.block id c) e σ Q := by
  intro κ w a hs
  refine wp_block (wp_mono (h κ w a hs) fun x' a' w' hx => ?_)
  obtain ⟨ex, e', σ', κ', rfl, hq, hev, hs'⟩ := hx
  cases ex with
  | normal => exact ⟨.normal, e', σ', κ', rfl, hq, hev, hs'⟩
  | ret => exact ⟨.ret, e', σ', κ', rfl, hq, hev, hs'⟩
  | exit i =>
    simp only [Ex.to, Exit.inBlock]
    simp only [leave] at hq
    cases hb : Nat.beq i id with
    | true =>
      rw [hb] at hq; simp only [cond_true] at hq
      have := Nat.eq_of_beq_eq_true hb
      rw [if_pos this]
      exact ⟨.normal, e', σ', κ', rfl, hq, hev, hs'⟩
    | false =>
      rw [hb] at hq; simp only [cond_false] at hq
      rw [if_neg (fun e => by subst e; simp at hb)]
      exact ⟨.exit i, e', σ', κ', rfl, hq, hev, hs'⟩
/-! less is known -/
def Sub (e' e : Env) : Prop := ∀ t v, Env.get e' t = some v → Env.get e t = some v
theorem SR.sub [HasGlob] {N κ w a} {e' : Env} (h : SR N κ w e σ a) (hs : Sub e' e) : SR N κ w e' σ a := ⟨fun t v ht => h.env t v (hs t v ht), h.rs, h.defers, h.size⟩
theorem W.sub [HasGlob] {c : Code} {e' : Env} (hs : Sub e' e) (h : W C c e' σ Q) : W C c e σ Q := fun κ w a hr => h κ w a (hr.sub hs)
def keep (l : List Nat) : Env → Env
  | [] => []
  | (t, v) :: r => bif l.elem t then (t, v) :: keep l r else keep l r
theorem keep_sub (l : List Nat) : ∀ e : Env, (∀ t v, Env.get (keep l e) t = some v → t ∈ l ∧ ∃ v', Env.get e t = some v') ∧ ∀ t, t ∈ l → Env.get (keep l e) t = Env.get e t
  | [] => ⟨fun t v h => by simp [keep, Env.get] at h, fun t _ => rfl⟩
  | (s, x) :: r => by
    obtain ⟨h1, h2⟩ := keep_sub l r
    refine ⟨fun t v h => ?_, fun t ht => ?_⟩
    · simp only [keep] at h
      cases he : l.elem s with
      | true =>
        rw [he] at h; simp only [cond_true, Env.get] at h ⊢
        cases hb : Nat.beq s t with
        | true =>
          have := Nat.eq_of_beq_eq_true hb
          subst this
          exact ⟨by simpa using he, x, rfl⟩
        | false => rw [hb] at h; simp only [cond_false] at h ⊢; exact h1 t v h
      | false =>
        rw [he] at h; simp only [cond_false, Env.get] at h ⊢
        obtain ⟨h3, v', h4⟩ := h1 t v h
        refine ⟨h3, ?_⟩
        cases hb : Nat.beq s t with
        | true => exact ⟨x, rfl⟩
        | false => exact ⟨v', h4⟩
    · simp only [keep]
      cases he : l.elem s with
      | true =>
        simp only [cond_true, Env.get]
        cases Nat.beq s t <;> simp [h2 t ht]
      | false =>
        simp only [cond_false, Env.get]
        have : Nat.beq s t = false := by
          rw [Bool.eq_false_iff]; intro hb
          have := Nat.eq_of_beq_eq_true hb
          subst this
          simp [ht] at he
        rw [this]; simpa using h2 t ht
theorem Sub.keep (l : List Nat) (e : Env) : Sub (keep l e) e := fun t v h => by
  obtain ⟨h1, h2⟩ := keep_sub l e
  rw [← h2 t (h1 t v h).1]; exact h
/-! objects that nothing names any more -/
def trims (n : Nat) (e : Env) (σ : St) : Bool := (e.all fun p => p.2.under (alive (σ.take n))) && (σ.take n).all fun o => o.under (alive (σ.take n))
theorem RS.take [HasGlob] {κ w} {n : Nat} (h : RS κ w σ) (ht : ((σ.take n).all fun o => o.under (alive (σ.take n))) = true) : RS κ w (σ.take n) := by
  have hget : ∀ id o, (σ.take n)[id]? = some o → σ[id]? = some o := fun id o ho => by
    rw [List.getElem?_take] at ho; split at ho
    · exact ho
    · simp at ho
  refine ⟨fun id o ho => h.obj id o (hget id o ho), fun id id' o o' b h1 h2 => h.inj id id' o o' b (hget _ _ h1) (hget _ _ h2), fun id o ho => ?_, h.inside, h.glob⟩
  simp only [List.all_eq_true] at ht
  exact ht o (List.mem_of_getElem? ho)
theorem Evo.take {κ w σ0 κ' w'} {n : Nat} (h : Evo κ w σ0 κ' w' σ) (hn : σ0.length ≤ n) : Evo κ w σ0 κ' w' (σ.take n) where
  S := h.S
  keep := h.keep
  at_ := h.at_
  sl := h.sl
  live id hid := by
    obtain ⟨o, h1, h2⟩ := alive_iff.1 (h.live id hid)
    have : id < σ0.length := by
      obtain ⟨o', h3, _⟩ := alive_iff.1 hid
      exact (List.getElem?_eq_some_iff.1 h3).1
    exact alive_iff.2 ⟨o, by rw [List.getElem?_take, if_pos (by omega)]; exact h1, h2⟩
  fresh := h.fresh
  frame := h.frame
  owned b hb := by
    obtain ⟨id, o, h1, h2⟩ := hb
    refine h.owned b ⟨id, o, ?_, h2⟩
    rw [List.getElem?_take] at h1; split at h1
    · exact h1
    · simp at h1
  size := h.size
  os := h.os
  tape := h.tape
  output := h.output
  len := by rw [List.length_take]; exact Nat.le_min.2 ⟨hn, h.len⟩
theorem env_under {e : Env} {L : Nat → Bool} (h : (e.all fun p => p.2.under L) = true) {t : Nat} {v : V} (hg : Env.get e t = some v) : v.under L = true := by
  induction e with
  | nil => simp [Env.get] at hg
  | cons p r ih =>
    obtain ⟨s, x⟩ := p
    simp only [List.all_cons, Bool.and_eq_true] at h
    simp only [Env.get] at hg
    cases hb : Nat.beq s t with
    | true => rw [hb] at hg; simp only [cond_true, Option.some.injEq] at hg; subst hg; exact h.1
    | false => rw [hb] at hg; exact ih h.2 hg
theorem SR.take [HasGlob] {κ w a} {n : Nat} (h : SR C.n κ w e σ a) (ht : trims n e σ = true) : SR C.n κ w e (σ.take n) a := by
  simp only [trims, Bool.and_eq_true] at ht
  exact ⟨fun t v hv => by
    obtain ⟨x, h1, h2, _⟩ := h.env t v hv
    exact ⟨x, h1, h2, env_under ht.1 hv⟩, h.rs.take ht.2, h.defers, h.size⟩
/-- a loop: I n: what holds at a round's head, n more rounds at most; behind a round what is not needed is forgotten -/
def round (n : Nat) (I : Nat → Env → St → Prop) (k : Nat) (l : List Nat) (Q : Ex → Env → St → Prop) : Ex → Env → St → Prop
  | .normal, e, σ => ∃ m, m < n ∧ I m (keep l e) (σ.take k) ∧ trims k (keep l e) σ = true
  | .exit id, e, σ => Q (.exit id) e σ
  | .ret, e, σ => Q .ret e σ
theorem W.loop [HasGlob] {c : Code} (l : List Nat) (k : Nat) (I : Nat → Env → St → Prop) {n : Nat} (hk : σ.length = k) (h0 : I n (Am.keep l e) σ)
    (hr : ∀ n e σ, I n e σ → σ.length = k → W C c e σ (round n I k l Q)) : W C (.loop c) e σ Q := by
  intro κ0 w0 a0 hs0
  let J : Nat → Act → World → Prop := fun n a w => ∃ κ e' σ', I n e' σ' ∧ σ'.length = k ∧ Evo κ0 w0 σ κ w σ' ∧ SR C.n κ w e' σ' a
  have hmin : ∀ a w, (∃ n, J n a w) → ∃ n, J n a w ∧ ∀ m, J m a w → n ≤ m := by
    intro a w ⟨n, hn⟩
    induction n using Nat.strongRecOn with
    | _ n ih =>
      by_cases h : ∃ m, m < n ∧ J m a w
      · obtain ⟨m, h1, h2⟩ := h; exact ih m h1 h2
      · exact ⟨n, hn, fun m hm => Nat.le_of_not_lt fun hlt => h ⟨m, hlt, hm⟩⟩
  let μ : Act → World → Nat := fun a w => open Classical in if h : ∃ n, J n a w then (hmin a w h).choose else 0
  have hμ : ∀ a w (h : ∃ n, J n a w), J (μ a w) a w ∧ ∀ m, J m a w → μ a w ≤ m := by
    intro a w h
    have : μ a w = (hmin a w h).choose := by simp only [μ]; rw [dif_pos h]
    rw [this]; exact (hmin a w h).choose_spec
  refine wp_loop (fun a w => ∃ n, J n a w) μ ⟨n, κ0, Am.keep l e, σ, h0, hk, .refl, hs0.sub (Sub.keep l e)⟩ ?_
  intro a w hI
  obtain ⟨⟨κ, e', σ', hi, hkl, hev, hs⟩, _⟩ := hμ a w hI
  refine wp_mono (hr _ e' σ' hi hkl κ w a hs) fun x a' w' hx => ?_
  obtain ⟨ex, e'', σ'', κ', rfl, hq, hev', hs'⟩ := hx
  cases ex with
  | exit id => exact ⟨.exit id, e'', σ'', κ', rfl, hq, hev.trans hev', hs'⟩
  | ret => exact ⟨.ret, e'', σ'', κ', rfl, hq, hev.trans hev', hs'⟩
  | normal =>
    obtain ⟨m, hm, hI', ht⟩ := hq
    have hev2 := hev.trans hev'
    have hlen : k ≤ σ''.length := by have := hev'.len; omega
    have hJ : J m a' w' := ⟨κ', Am.keep l e'', σ''.take k, hI', by simp; omega, hev2.take (by omega), (hs'.sub (Sub.keep l e'')).take ht⟩
    exact ⟨⟨m, hJ⟩, Nat.lt_of_le_of_lt ((hμ a' w' ⟨m, hJ⟩).2 m hJ) hm⟩
end
end Go.Am
/- The abstract machine: a region's operations in the order of the text; contracts of functions (Spec), and a call by one. -/
namespace Go.Am
/-! handing on -/
section
variable {κ : K} {w : World} {σ : St} {look : Look}
theorem snap_sound [HasGlob] (hR : RS κ w σ) (hl : Sees σ look) {c c' : Cell} {v : Value} (h : snap look c = some c') (hc : RC κ w c v) : RC κ w c' v := by
  unfold snap at h
  split at h
  · injection h with h; subst h
    cases hc with | d _ _ hd => cases hd with | sc _ _ => exact .d _ _ (.nil _ _)
  · rename_i id ep len
    cases hr : rowsOf look false id ep len with
    | none => simp [hr] at h
    | some rows =>
      simp only [hr, Option.some.injEq] at h; subst h
      cases hc with | arr _ _ _ a cap hs => exact .d _ _ (rows_sound hR hl hr hs)
  · injection h with h; subst h; exact hc
theorem snap_under {L : Nat → Bool} {c c' : Cell} (h : snap look c = some c') (hc : c.under L = true) : c'.under L = true := by
  unfold snap at h
  split at h
  · injection h with h; subst h; rfl
  · rename_i id ep len
    cases hr : rowsOf look false id ep len with
    | none => simp [hr] at h
    | some rows => simp only [hr, Option.some.injEq] at h; subst h; rfl
  · injection h with h; subst h; exact hc
theorem snapAll_sound [HasGlob] (hR : RS κ w σ) (hl : Sees σ look) : ∀ {cs cs' : List Cell} {vs : List Value}, snapAll look cs = some cs' → RCs κ w cs vs → RCs κ w cs' vs
  | [], cs', vs, h, hc => by simp only [snapAll, Option.some.injEq] at h; subst h; exact hc
  | c :: cs, cs', [], h, hc => by have := hc.1; simp at this
  | c :: cs, cs', v :: vs, h, hc => by
    simp only [snapAll] at h
    cases h1 : snap look c with
    | none => simp [h1] at h
    | some x =>
    cases h2 : snapAll look cs with
    | none => simp [h1, h2] at h
    | some xs =>
    simp only [h1, h2, Option.some.injEq] at h; subst h
    exact .cons (snap_sound hR hl h1 hc.head) (snapAll_sound hR hl h2 hc.tail)
theorem snapAll_under {L : Nat → Bool} : ∀ {cs cs' : List Cell}, snapAll look cs = some cs' → underAll L cs = true → underAll L cs' = true
  | [], cs', h, _ => by simp only [snapAll, Option.some.injEq] at h; subst h; rfl
  | c :: cs, cs', h, hu => by
    simp only [snapAll] at h
    cases h1 : snap look c with
    | none => simp [h1] at h
    | some x =>
    cases h2 : snapAll look cs with
    | none => simp [h1, h2] at h
    | some xs =>
    simp only [h1, h2, Option.some.injEq] at h; subst h
    simp only [underAll, Bool.and_eq_true] at hu ⊢
    exact ⟨snap_under h1 hu.1, snapAll_under h2 hu.2⟩
theorem snapF_sound [HasGlob] (hR : RS κ w σ) (hl : Sees σ look) {x x' : FV} {v : Value} (h : snapF look x = some x') (hx : RF κ w x v) : RF κ w x' v := by
  cases hx with
  | one c v hc =>
    simp only [snapF, Option.map_eq_some_iff] at h
    obtain ⟨c', h1, rfl⟩ := h; exact .one _ _ (snap_sound hR hl h1 hc)
  | agg cs vs hc =>
    simp only [snapF, Option.map_eq_some_iff] at h
    obtain ⟨c', h1, rfl⟩ := h; exact .agg _ _ (snapAll_sound hR hl h1 hc)
theorem snapFs_spec : ∀ {xs xs' : List FV}, snapFs look xs = some xs' → xs'.length = xs.length ∧ ∀ (i : Nat) (x' : FV), xs'[i]? = some x' → ∃ x, xs[i]? = some x ∧ snapF look x = some x'
  | [], xs', h => by simp only [snapFs, Option.some.injEq] at h; subst h; exact ⟨rfl, fun i x h => by simp at h⟩
  | x :: r, xs', h => by
    simp only [snapFs] at h
    cases h1 : snapF look x with
    | none => simp [h1] at h
    | some y =>
    cases h2 : snapFs look r with
    | none => simp [h1, h2] at h
    | some ys =>
    simp only [h1, h2, Option.some.injEq] at h; subst h
    obtain ⟨h3, h4⟩ := snapFs_spec h2
    refine ⟨by simp [h3], fun i x' hi => ?_⟩
    cases i with
    | zero => simp at hi; subst hi; exact ⟨x, rfl, h1⟩
    | succ i => simpa using h4 i x' (by simpa using hi)
theorem snapV_sound [HasGlob] (hR : RS κ w σ) (hl : Sees σ look) {x x' : V} {v : Value} (h : snapV look x = some x') (hx : RV κ w x v) : RV κ w x' v := by
  cases hx with
  | one c v hc =>
    simp only [snapV, Option.map_eq_some_iff] at h
    obtain ⟨c', h1, rfl⟩ := h; exact .one _ _ (snap_sound hR hl h1 hc)
  | agg cs vs hc =>
    simp only [snapV, Option.map_eq_some_iff] at h
    obtain ⟨c', h1, rfl⟩ := h; exact .agg _ _ (snapAll_sound hR hl h1 hc)
  | tup xs vs hn hall =>
    simp only [snapV, Option.map_eq_some_iff] at h
    obtain ⟨xs', h1, rfl⟩ := h
    obtain ⟨h2, h3⟩ := snapFs_spec h1
    refine .tup _ _ (by omega) fun i x' v hi hv => ?_
    obtain ⟨x, h4, h5⟩ := h3 i x' hi
    exact snapF_sound hR hl h5 (hall i x v h4 hv)
  | undef => simp [snapV] at h
theorem snapV_under {L : Nat → Bool} {x x' : V} (h : snapV look x = some x') (hx : x.under L = true) : x'.under L = true := by
  cases x with
  | one c => simp only [snapV, Option.map_eq_some_iff] at h; obtain ⟨c', h1, rfl⟩ := h; exact snap_under h1 hx
  | agg cs => simp only [snapV, Option.map_eq_some_iff] at h; obtain ⟨c', h1, rfl⟩ := h; exact snapAll_under h1 hx
  | undef => simp [snapV] at h
  | tup xs =>
    simp only [snapV, Option.map_eq_some_iff] at h
    obtain ⟨xs', h1, rfl⟩ := h
    obtain ⟨h2, h3⟩ := snapFs_spec h1
    simp only [V.under, List.all_eq_true] at hx ⊢
    intro y hy
    obtain ⟨i, hi⟩ := List.mem_iff_getElem?.1 hy
    obtain ⟨z, h4, h5⟩ := h3 i y hi
    have := hx z (List.mem_of_getElem? h4)
    cases z with
    | one c => simp only [snapF, Option.map_eq_some_iff] at h5; obtain ⟨c', h6, rfl⟩ := h5; exact snap_under h6 this
    | agg cs => simp only [snapF, Option.map_eq_some_iff] at h5; obtain ⟨c', h6, rfl⟩ := h5; exact snapAll_under h6 this
end
/-! contracts -/
/-- arguments here and there -/
def RVs (κ : K) (w : World) (L : Nat → Bool) (args : List V) (xs : List Value) : Prop :=
  args.length = xs.length ∧ ∀ (i : Nat) (v : V) (x : Value), args[i]? = some v → xs[i]? = some x → RV κ w v x ∧ v.under L = true
theorem RVs.nil {κ w L} : RVs κ w L [] [] := ⟨rfl, fun i v x h => by simp at h⟩
theorem RVs.cons {κ w L v x vs xs} (h : RV κ w v x) (hu : v.under L = true) (k : RVs κ w L vs xs) : RVs κ w L (v :: vs) (x :: xs) :=
  ⟨by simp [k.1], fun i u y h1 h2 => by
    cases i with
    | zero => simp at h1 h2; subst h1; subst h2; exact ⟨h, hu⟩
    | succ i => exact k.2 i u y (by simpa using h1) (by simpa using h2)⟩
theorem RVs.append {κ w L vs xs us ys} (h : RVs κ w L vs xs) (k : RVs κ w L us ys) : RVs κ w L (vs ++ us) (xs ++ ys) :=
  ⟨by simp [h.1, k.1], fun i v x h1 h2 => by
    rw [List.getElem?_append] at h1 h2
    rw [← h.1] at h2
    split at h1
    · rename_i hi; rw [if_pos hi] at h2; exact h.2 i v x h1 h2
    · rename_i hi; rw [if_neg hi] at h2; exact k.2 _ v x h1 h2⟩
/-- a function with a body of its own -/
def enters (P : Program) (f : FuncId) : Prop := ∃ fn, P.funcs[f]? = some fn ∧ (fn.name == "runtime.NumGoroutine") = false ∧ fn.body.isNone = false
/-- a function, called with these values in this state, returns; R: what, and in which state -/
def Spec [HasGlob] (P : Program) (f : FuncId) (args : List V) (σ : St) (R : V → St → Prop) : Prop :=
  enters P f ∧ ∀ κ w xs, RS κ w σ → RVs κ w (alive σ) args xs →
    Calls P f xs.toArray w fun en w' => ∃ x r κ' σ', en = .returned x ∧ R r σ' ∧ RV κ' w' r x ∧ r.under (alive σ') = true ∧ Evo κ w σ κ' w' σ' ∧ RS κ' w' σ'
theorem Spec.mono [HasGlob] {P f args σ R R'} (h : Spec P f args σ R) (hr : ∀ r σ', R r σ' → R' r σ') : Spec P f args σ R' :=
  ⟨h.1, fun κ w xs hR hx => (h.2 κ w xs hR hx).mono fun _ _ ⟨x, r, κ', σ', h1, h2, h3⟩ => ⟨x, r, κ', σ', h1, hr _ _ h2, h3⟩⟩
/-- a contract of a function that only computes -/
def Comp [HasGlob] (P : Program) (f : FuncId) (args : List V) (r : V) : Prop := Spec P f args [] fun r' σ' => r' = r ∧ σ' = []
/-! the operations of a region -/
def WO [HasGlob] (C : Cx) (ops : Array Oper) (l : List Nat) (e : Env) (σ : St) (Q : Env → St → Prop) : Prop :=
  ∀ κ w a, SR C.n κ w e σ a → wpOps C.P ops (fun x a' w' => x = .normal ∧ ∃ e' σ' κ', Q e' σ' ∧ Evo κ w σ κ' w' σ' ∧ SR C.n κ' w' e' σ' a') l a w
section
variable {C : Cx} {ops : Array Oper} {l : List Nat} {e : Env} {σ : St} {Q : Env → St → Prop} {i : Nat} {o : Oper}
theorem wpOps_mono {P : Program} {Q Q' : Exit → Act → World → Prop} (hq : ∀ x a w, Q x a w → Q' x a w) : ∀ (l : List Nat) (a : Act) (w : World), wpOps P ops Q l a w → wpOps P ops Q' l a w
  | [], a, w, h => hq _ _ _ h
  | i :: l, a, w, h => by
    simp only [wpOps] at h ⊢
    cases ho : ops[i]? with
    | none => simp only [ho] at h ⊢; exact wpOps_mono hq l a w h
    | some o =>
      simp only [ho] at h ⊢
      split
      · rename_i hw
        simp only [hw, if_true] at h
        rcases h with h | ⟨h1, a0, w0, h2⟩
        · left
          unfold Oper.wp at h ⊢
          generalize (execOp a.eval o).run P w = r at h ⊢
          cases r with
          | halt x w' =>
            cases x <;> simp only [Oper.upon] at h ⊢
            · exact hq _ _ _ h
          | ok n w' =>
            cases n <;> simp only [Oper.upon] at h ⊢
            · exact wpOps_mono hq l _ _ h
            · exact wpOps_mono hq l _ _ h
            · refine h.mono fun en w'' hh => ?_
              cases en with
              | returned v => exact wpOps_mono hq l _ _ hh
              | panicked ch => exact hq _ _ _ hh
              | outgrown => obtain ⟨a1, w1, h1⟩ := hh; exact ⟨a1, w1, hq _ _ _ h1⟩
            · exact wpOps_mono hq l _ _ h
            · exact Rows.mono h fun v w'' hh => wpOps_mono hq l _ _ hh
        · exact .inr ⟨h1, a0, w0, hq _ _ _ h2⟩
      · rename_i hw
        simp only [hw] at h
        exact wpOps_mono hq l _ _ h
theorem W.region [HasGlob] {id : Nat} {Q : Ex → Env → St → Prop} (h : WO C ops (List.range ops.size) e σ fun e' σ' => Q .normal e' σ') : W C (.region id ops false) e σ Q :=
  fun κ w a hs => wp_region (wpOps_mono (fun x a' w' ⟨hx, e', σ', κ', h1, h2⟩ => ⟨.normal, e', σ', κ', hx, h1, h2⟩) _ _ _ (h κ w a hs))
theorem WO.nil [HasGlob] (h : Q e σ) : WO C ops [] e σ Q := fun κ w a hs => ⟨rfl, e, σ, κ, h, .refl, hs⟩
theorem guard_sound [HasGlob] {N κ w a} (hs : SR N κ w e σ a) {g : Bool} (h : guardOk e ops.toList o = some g) : Region.wanted o (yielded ops a.tmps) = g := by
  unfold guardOk at h
  unfold Region.wanted
  cases hg : o.guard with
  | none => simp only [hg, Option.some.injEq] at h; exact h
  | some p =>
    obtain ⟨j, want⟩ := p
    simp only [hg] at h ⊢
    rw [Array.getElem?_toList] at h
    cases hp : ops[j]? with
    | none => simp [hp] at h
    | some q =>
    simp only [hp] at h
    cases hd : q.dst with
    | none => simp [hd] at h
    | some t =>
    simp only [hd] at h
    split at h
    · rename_i b hb
      injection h with h; subst h
      obtain ⟨x, h1, h2, _⟩ := hs.env t _ hb
      have hx : x = .bool b := by cases h2 with | one _ _ hc => cases hc with | d _ _ hd => cases hd with | sc _ _ => rfl
      subst hx
      simp only [yielded, hp, Option.bind_some, hd, h1]
      cases b <;> cases want <;> rfl
    · rename_i hb
      injection h with h; subst h
      obtain ⟨x, h1, h2, _⟩ := hs.env t _ hb
      cases h2 with | undef =>
      simp only [yielded, hp, Option.bind_some, hd, h1, Go.undef]
      rfl
    · simp at h
theorem WO.later [HasGlob] {κ w κ' w' σ' e' a'} (hev : Evo κ w σ κ' w' σ') (h : WO C ops l e' σ' Q) (hs : SR C.n κ' w' e' σ' a') :
    wpOps C.P ops (fun x a'' w'' => x = .normal ∧ ∃ e'' σ'' κ'', Q e'' σ'' ∧ Evo κ w σ κ'' w'' σ'' ∧ SR C.n κ'' w'' e'' σ'' a'') l a' w' :=
  wpOps_mono (fun _ _ _ ⟨hx, e'', σ'', κ'', h1, h2, h3⟩ => ⟨hx, e'', σ'', κ'', h1, hev.trans h2, h3⟩) _ _ _ (h κ' w' a' hs)
/-- does a destination lie among the temporaries? -/
def dstOk (n : Nat) (o : Oper) : Bool :=
  match o.dst with
  | some t => Nat.blt t n
  | none => true
theorem dstOk_spec {n : Nat} (h : dstOk n o = true) : ∀ t, o.dst = some t → t < n := by
  intro t ht
  simp only [dstOk, ht] at h
  exact Nat.le_of_ble_eq_true h
theorem WO.skip [HasGlob] (ho : ops[i]? = some o) (hg : guardOk e ops.toList o = some false) (hd : dstOk C.n o = true) (h : WO C ops l (Env.put e o.dst .undef) σ Q) : WO C ops (i :: l) e σ Q := by
  intro κ w a hs
  simp only [wpOps, ho, guard_sound hs hg, Bool.false_eq_true, if_false]
  exact h κ w _ (hs.put ⟨fun _ _ h => h, fun _ _ _ => rfl, fun _ _ => rfl, fun _ _ _ _ _ h => h⟩ (fun _ h => h) hs.rs .undef rfl (dstOk_spec hd))
theorem inFoot_sees (F : List Nat) (σ : St) : Sees σ (inFoot F σ) := fun id o h => by
  unfold inFoot at h
  cases hF : F.elem id with
  | true => rw [hF] at h; exact h
  | false => rw [hF] at h; simp at h
theorem slots_sub (e : Env) : ∀ l : List Nat, Sub (slots l e) e
  | [] => fun t v h => by simp [slots, Env.get] at h
  | s :: r => by
    intro t v h
    simp only [slots] at h
    cases hs : Env.get e s with
    | none => rw [hs] at h; exact slots_sub e r t v h
    | some x =>
      rw [hs] at h; simp only [Env.get] at h
      cases hb : Nat.beq s t with
      | true =>
        rw [hb] at h; simp only [cond_true, Option.some.injEq] at h; subst h
        rw [← Nat.eq_of_beq_eq_true hb]; exact hs
      | false => rw [hb] at h; exact slots_sub e r t v h
theorem slots_congr {e e2 : Env} : ∀ {l : List Nat}, (∀ t ∈ l, Env.get e2 t = Env.get e t) → slots l e2 = slots l e
  | [], _ => rfl
  | s :: r, h => by
    simp only [slots, h s (by simp), slots_congr (l := r) fun t ht => h t (by simp [ht])]
theorem aop_sound [HasGlob] {N κ w a nid} (hT : C.T.fits C.P) (hs : SR N κ w e σ a) (hn : makes C o = true → σ[nid]? = some .dead) {v : V} {u : Upd} (h : aop C nid e σ o = some (v, u)) :
    OpOk κ w σ ((execOp a.eval o).run C.P w) v u :=
  core_sound hT hs.rs (inFoot_sees _ _) (fun _ _ hv => ev_sound (hs.sub (slots_sub _ _)) hv) hn h
theorem WO.step [HasGlob] (hT : C.T.fits C.P) {nid : Nat} (ho : ops[i]? = some o) (hg : guardOk e ops.toList o = some true) (hd : dstOk C.n o = true) (hn : makes C o = true → σ[nid]? = some .dead)
    {v : V} {u : Upd} (hop : aop C nid e σ o = some (v, u)) (h : WO C ops l (Env.put e o.dst v) (σ.upd u) Q) : WO C ops (i :: l) e σ Q := by
  intro κ w a hs
  simp only [wpOps, ho, guard_sound hs hg, if_true]
  left
  obtain ⟨x, w', κ', hrun, hv, hu, hev, hR⟩ := aop_sound hT hs hn hop
  have hs' : SR C.n κ' w' (Env.put e o.dst v) (σ.upd u) (a.put o.dst x) := hs.put hev.stays hev.live hR hv hu (dstOk_spec hd)
  unfold Oper.wp
  rcases hrun with hrun | ⟨hrun, rfl⟩
  · rw [hrun]; exact WO.later hev h hs'
  · rw [hrun]; exact WO.later hev h hs'
/-- an operation that makes no object -/
theorem WO.val [HasGlob] (hT : C.T.fits C.P) (ho : ops[i]? = some o) (hg : guardOk e ops.toList o = some true) (hd : dstOk C.n o = true) (hm : makes C o = false)
    {v : V} {u : Upd} (hop : aop C 0 e σ o = some (v, u)) (h : WO C ops l (Env.put e o.dst v) (σ.upd u) Q) : WO C ops (i :: l) e σ Q :=
  WO.step hT ho hg hd (fun h => by rw [hm] at h; simp at h) hop h
theorem alive_append (σ : St) (id : Nat) : alive (σ ++ [.dead]) id = alive σ id := by
  by_cases h : id < σ.length
  · have : (σ ++ [Ob.dead])[id]? = σ[id]? := List.getElem?_append_left h
    simp only [alive, this]
  · have h1 : σ[id]? = none := List.getElem?_eq_none (by omega)
    have h2 : (σ ++ [Ob.dead])[id]? = some .dead ∨ (σ ++ [Ob.dead])[id]? = none := by
      rw [List.getElem?_append_right (by omega)]
      by_cases h0 : id - σ.length = 0
      · rw [h0]; exact .inl rfl
      · obtain ⟨q, hq⟩ : ∃ q, id - σ.length = q + 1 := ⟨id - σ.length - 1, by omega⟩
        rw [hq]; exact .inr rfl
    rcases h2 with h2 | h2 <;> simp only [alive, h1, h2]
theorem get_append {σ : St} {id : Nat} {o : Ob} (h : (σ ++ [.dead])[id]? = some o) : σ[id]? = some o ∨ o = .dead := by
  rw [List.getElem?_append] at h
  split at h
  · exact .inl h
  · have := List.mem_of_getElem? h
    simp at this; exact .inr this
theorem RS.room [HasGlob] {κ w} (h : RS κ w σ) : RS κ w (σ ++ [.dead]) := by
  have e : alive (σ ++ [.dead]) = alive σ := funext (alive_append σ)
  refine ⟨fun id o ho => ?_, fun id id' o o' b h1 h2 hb hb' => ?_, fun id o ho => ?_, h.inside, h.glob⟩
  · rcases get_append ho with h1 | rfl
    · exact h.obj id o h1
    · trivial
  · rcases get_append h1 with h3 | rfl
    · rcases get_append h2 with h4 | rfl
      · exact h.inj _ _ _ _ b h3 h4 hb hb'
      · simp [blockOf] at hb'
    · simp [blockOf] at hb
  · rw [e]
    rcases get_append ho with h1 | rfl
    · exact h.inner id o h1
    · rfl
theorem own_room {κ : K} {b : Nat} (h : own κ (σ ++ [.dead]) b) : own κ σ b := by
  obtain ⟨id, o, h1, h2⟩ := h
  rcases get_append h1 with h3 | rfl
  · exact ⟨id, o, h3, h2⟩
  · simp [blockOf] at h2
theorem Evo.room {κ w} : Evo κ w σ κ w (σ ++ [.dead]) :=
  { (Evo.refl : Evo κ w σ κ w σ) with live := fun id h => by rw [alive_append]; exact h, owned := fun b h => .inl (own_room h), len := by simp }
theorem SR.room [HasGlob] {N κ w a} (h : SR N κ w e σ a) : SR N κ w e (σ ++ [.dead]) a := by
  have e : alive (σ ++ [.dead]) = alive σ := funext (alive_append σ)
  exact ⟨fun t v ht => by rw [e]; exact h.env t v ht, h.rs.room, h.defers, h.size⟩
/-- an operation that makes an object -/
theorem WO.make [HasGlob] (hT : C.T.fits C.P) (ho : ops[i]? = some o) (hg : guardOk e ops.toList o = some true) (hd : dstOk C.n o = true)
    {v : V} {u : Upd} (hop : aop C σ.length e (σ ++ [.dead]) o = some (v, u)) (h : WO C ops l (Env.put e o.dst v) (St.upd (σ ++ [.dead]) u) Q) : WO C ops (i :: l) e σ Q := by
  have := WO.step (Q := Q) (l := l) (e := e) (σ := σ ++ [.dead]) hT ho hg hd (fun _ => by simp) hop h
  intro κ w a hs
  exact WO.later Evo.room this hs.room
/-! calls -/
theorem evAll_sound [HasGlob] {N κ w a} (hs : SR N κ w e σ a) : ∀ {xs : List Operand} {vs : List V}, evAll e xs = some vs → RVs κ w (alive σ) vs (xs.map a.eval)
  | [], vs, h => by simp only [evAll, Option.some.injEq] at h; subst h; exact .nil
  | x :: r, vs, h => by
    simp only [evAll] at h
    cases hx : ev e x with
    | none => simp [hx] at h
    | some v =>
    cases hr : evAll e r with
    | none => simp [hx, hr] at h
    | some rs =>
    simp only [hx, hr, Option.some.injEq] at h; subst h
    obtain ⟨h1, h2⟩ := ev_sound hs hx
    exact .cons h1 h2 (evAll_sound hs hr)
theorem cells_args {κ w L} {cs : List Cell} {xs : Array Value} (hn : cs.length = xs.size) (h : ∀ (i : Nat) (c : Cell), cs[i]? = some c → RC κ w c (xs.getD i undef)) (hu : underAll L cs = true) :
    RVs κ w L (cs.map V.one) xs.toList := by
  refine ⟨by simpa using hn, fun i v x hv hx => ?_⟩
  simp only [List.getElem?_map, Option.map_eq_some_iff] at hv
  obtain ⟨c, hc, rfl⟩ := hv
  rw [Array.getElem?_toList] at hx
  obtain ⟨hlt, hx'⟩ := Array.getElem?_eq_some_iff.1 hx
  have := h i c hc
  simp [hlt, hx'] at this
  exact ⟨.one _ _ this, under_of_mem hu i c hc⟩
theorem callee_sound [HasGlob] {N κ w a} (hs : SR N κ w e σ a) {f : FuncId} {vs : List V} (hc : calleeOf e o = some (f, vs)) (hf : enters C.P f) :
    ∃ xs : List Value, (execOp a.eval o).run C.P w = .ok (.enter f xs.toArray) w ∧ RVs κ w (alive σ) vs xs := by
  unfold calleeOf at hc
  split at hc
  case h_2 => simp at hc
  rename_i fo xs ts hop
  split at hc
  case h_2 => simp at hc
  rename_i g first captured us hfo hxs
  simp only [Option.some.injEq, Prod.mk.injEq] at hc
  obtain ⟨rfl, rfl⟩ := hc
  obtain ⟨hv, hu⟩ := ev_sound hs hfo
  generalize hy : a.eval fo = y at hv
  cases hv with | one _ _ hrc =>
  cases hrc with | fn _ _ _ ys zs hny hnz hys hzs =>
  simp only [V.under, Cell.under, Bool.and_eq_true] at hu
  refine ⟨ys.toList ++ (xs.toList.map a.eval) ++ zs.toList, ?_, ((cells_args hny hys hu.1).append (evAll_sound hs hxs)).append (cells_args hnz hzs hu.2)⟩
  obtain ⟨fn, h1, h2, h3⟩ := hf
  have hinv : (invoke (.fn (.func g) zs) (ys ++ xs.map a.eval)).run C.P w = .ok (.enter g (ys ++ xs.map a.eval ++ zs)) w := by
    show (callFunc g (ys ++ xs.map a.eval ++ zs)).run C.P w = _
    unfold callFunc
    rw [run_bind run_program]
    simp only [h1, h2, Bool.false_eq_true, if_false, h3]; rfl
  have harr : (ys.toList ++ (xs.toList.map a.eval) ++ zs.toList).toArray = ys ++ xs.map a.eval ++ zs := by
    apply Array.ext'; simp
  rw [harr, ← hinv]
  unfold execOp
  simp only [hop]
  refine (run_bind (a := { target := .fn (.func g) zs, args := ys ++ xs.map a.eval }) (w' := w) ?_).trans rfl
  unfold resolve
  simp only [hy]; rfl
theorem RVs.stays {κ κ' : K} {w w' : World} {L L' : Nat → Bool} {vs : List V} {xs : List Value} (h : RVs κ w L vs xs) (hs : Stays κ w κ' w' L') (hu : ∀ v ∈ vs, v.under L' = true) : RVs κ' w' L' vs xs :=
  ⟨h.1, fun i v x hv hx => ⟨((h.2 i v x hv hx).1).stays hs (hu v (List.mem_of_getElem? hv)), hu v (List.mem_of_getElem? hv)⟩⟩
theorem snapVs_sound [HasGlob] {κ w L look} (hR : RS κ w σ) (hl : Sees σ look) : ∀ {vs vs' : List V} {xs : List Value}, snapVs look vs = some vs' → RVs κ w L vs xs → RVs κ w L vs' xs
  | [], vs', xs, h, hv => by simp only [snapVs, Option.some.injEq] at h; subst h; exact hv
  | v :: vs, vs', [], h, hv => by have := hv.1; simp at this
  | v :: vs, vs', x :: xs, h, hv => by
    simp only [snapVs] at h
    cases h1 : snapV look v with
    | none => simp [h1] at h
    | some y =>
    cases h2 : snapVs look vs with
    | none => simp [h1, h2] at h
    | some ys =>
    simp only [h1, h2, Option.some.injEq] at h; subst h
    obtain ⟨h3, h4⟩ := hv.2 0 v x rfl rfl
    refine .cons (snapV_sound hR hl h1 h3) (snapV_under h1 h4) (snapVs_sound hR hl h2 ⟨by have := hv.1; simpa using this, fun i u y h5 h6 => hv.2 (i + 1) u y (by simpa using h5) (by simpa using h6)⟩)
/-- the state of a function that has no object yet -/
def K.bare (κ : K) : K := { S := κ.S, at_ := fun _ => none, sl := fun _ _ _ => none }
theorem RS.bare [HasGlob] {κ w} (h : RS κ w σ) : RS κ.bare w [] :=
  ⟨fun id o ho => by simp at ho, fun id id' o o' b h1 => by simp at h1, fun id o ho => by simp at ho, h.inside, h.glob⟩
/-- a call of a function that gets data alone and hands back data alone -/
theorem WO.call [HasGlob] (ho : ops[i]? = some o) (hg : guardOk e ops.toList o = some true) (hd : dstOk C.n o = true) {f : FuncId} {vs vs' : List V} (hc : calleeOf e o = some (f, vs))
    (hsn : snapVs (fun id => σ[id]?) vs = some vs') (hni : vs'.all noIds = true) {R : V → St → Prop} (hS : Spec C.P f vs' [] R)
    (hr : ∀ r σ', R r σ' → σ' = [] ∧ noIds r = true) (h : ∀ r, R r [] → WO C ops l (Env.put e o.dst r) σ Q) : WO C ops (i :: l) e σ Q := by
  intro κ w a hs
  simp only [wpOps, ho, guard_sound hs hg, if_true]
  left
  obtain ⟨xs, hrun, hxs⟩ := callee_sound hs hc hS.1
  unfold Oper.wp
  rw [hrun]
  simp only [Oper.upon]
  have hxs' := snapVs_sound hs.rs (fun _ _ h => h) hsn hxs
  have hbare : Stays κ w κ.bare w (fun _ => false) := ⟨fun _ _ h => h, fun _ _ _ => rfl, fun _ h => by simp at h, fun _ _ _ _ h => by simp at h⟩
  have hall : ∀ v ∈ vs', v.under (fun _ => false) = true := fun v hv => List.all_eq_true.1 hni v hv
  have hxs2 := hxs'.stays hbare hall
  have hal : ∀ id, alive ([] : St) id = false := fun id => by simp [alive]
  have hxs3 : RVs κ.bare w (alive []) vs' xs := by rw [show alive ([] : St) = fun _ => false from funext hal]; exact hxs2
  refine (hS.2 κ.bare w xs hs.rs.bare hxs3).mono fun en w' hen => ?_
  obtain ⟨x, r, κ1, σ1, rfl, hRr, hrv, hru, hev, hR1⟩ := hen
  obtain ⟨rfl, hnr⟩ := hr r σ1 hRr
  let κ' : K := { κ with S := κ1.S }
  have hown : ∀ b, ¬ own κ.bare [] b := fun b ⟨id, o, h1, _⟩ => by simp at h1
  obtain ⟨g1, g2⟩ := RS.fresh (κ' := κ') (w' := w') hs.rs hev.S rfl rfl
    (fun b o h => by
      rcases hev.fresh b o h with h1 | h1 | h1
      · exact .inl h1
      · exact absurd h1 (hown b)
      · exact .inr ⟨h1, hR1.inside b o h⟩)
    (fun b hb => hev.frame b hb (hown b)) hev.size hev.os hev.tape hev.output
  have hrv' : RV κ' w' r x := RV.stays (κ := κ1) (κ' := κ') (w := w') (w' := w') (L := fun _ => false) ⟨fun _ _ h => h, fun _ _ _ => rfl, fun _ h => by simp at h, fun _ _ _ _ h => by simp at h⟩ hrv hnr
  exact WO.later g1 (h r hRr) (hs.put g1.stays g1.live g2 hrv' (V.under_mono (fun _ h => by simp at h) hnr) (dstOk_spec hd))
end
end Go.Am
/- The abstract machine: from a walk over a function's code to its contract. -/
namespace Go.Am
def resOf (T : Tab) (e : Env) (look : Look) : List ResultVar → Option (List V)
  | [] => some []
  | .tmp t :: r => match Env.get e t, resOf T e look r with
    | some v, some vs => some (v :: vs)
    | _, _ => none
  | .cell a t :: r => match Env.get e a with
    | some (.one c) => match loadFrom T t c look, resOf T e look r with
      | some v, some vs => some (v :: vs)
      | _, _ => none
    | _ => none
def fvs : List V → Option (List FV)
  | [] => some []
  | v :: r => match v.fv, fvs r with
    | some x, some xs => some (x :: xs)
    | _, _ => none
def tupled : List V → Option V
  | [v] => some v
  | vs => match fvs vs with
    | some xs => some (.tup xs)
    | none => none
def initEnv (k : Nat) : List V → Env
  | [] => []
  | v :: r => (k, v) :: initEnv (k + 1) r
/-- how a function ends: what it hands back (growing arrays as data), and that its own objects are gone -/
def Fin (C : Cx) (rs : List ResultVar) (n : Nat) (e : Env) (σ : St) (R : V → St → Prop) : Prop :=
  ∃ vs v r σ', resOf C.T e (fun id => σ[id]?) rs = some vs ∧ tupled vs = some v ∧ (r = v ∨ snapV (fun id => σ[id]?) v = some r) ∧
    (σ' = σ ∨ (σ' = σ.take n ∧ r.under (alive (σ.take n)) = true ∧ ((σ.take n).all fun o => o.under (alive (σ.take n))) = true)) ∧ R r σ'
theorem initEnv_get : ∀ (vs : List V) (k t : Nat) (v : V), Env.get (initEnv k vs) t = some v → k ≤ t ∧ vs[t - k]? = some v
  | [], k, t, v, h => by simp [initEnv, Env.get] at h
  | x :: r, k, t, v, h => by
    simp only [initEnv, Env.get] at h
    cases hb : Nat.beq k t with
    | true =>
      rw [hb] at h; simp only [cond_true, Option.some.injEq] at h; subst h
      have := Nat.eq_of_beq_eq_true hb
      subst this; simp
    | false =>
      rw [hb] at h; simp only [cond_false] at h
      obtain ⟨h1, h2⟩ := initEnv_get r (k + 1) t v h
      refine ⟨by omega, ?_⟩
      rw [show t - k = (t - (k + 1)) + 1 from by omega]; simpa using h2
def resRun (tmps : Array Value) : ResultVar → Sem Value
  | .tmp t => pure (tmps.getD t Go.undef)
  | .cell a t => do loadVar t (← asAddr (tmps.getD a Go.undef))
section
variable {C : Cx} {e : Env} {σ : St}
theorem res_sound [HasGlob] (hT : C.T.fits C.P) {N κ w a} (hs : SR N κ w e σ a) : ∀ {rs : List ResultVar} {vs : List V}, resOf C.T e (fun id => σ[id]?) rs = some vs →
    ∃ xs : List Value, (rs.mapM (resRun a.tmps)).run C.P w = .ok xs w ∧ RVs κ w (alive σ) vs xs
  | [], vs, h => by simp only [resOf, Option.some.injEq] at h; subst h; exact ⟨[], rfl, .nil⟩
  | .tmp t :: r, vs, h => by
    simp only [resOf] at h
    cases hg : Env.get e t with
    | none => simp [hg] at h
    | some v =>
    cases hr : resOf C.T e (fun id => σ[id]?) r with
    | none => simp [hg, hr] at h
    | some rest =>
    simp only [hg, hr, Option.some.injEq] at h; subst h
    obtain ⟨x, h1, h2, h3⟩ := hs.env t v hg
    obtain ⟨xs, h4, h5⟩ := res_sound hT hs hr
    refine ⟨x :: xs, ?_, .cons h2 h3 h5⟩
    rw [List.mapM_cons]
    have : a.tmps.getD t Go.undef = x := by simp [h1]
    have hp : (resRun a.tmps (.tmp t)).run C.P w = .ok x w := by simp only [resRun, this]; rfl
    rw [run_bind hp, run_bind h4]; rfl
  | .cell b t :: r, vs, h => by
    simp only [resOf] at h
    cases hg : Env.get e b with
    | none => simp [hg] at h
    | some bv =>
    simp only [hg] at h
    cases bv with
    | agg => simp at h
    | tup => simp at h
    | undef => simp at h
    | one c =>
    simp only at h
    cases hl : loadFrom C.T t c (fun id => σ[id]?) with
    | none => simp [hl] at h
    | some v =>
    cases hr : resOf C.T e (fun id => σ[id]?) r with
    | none => simp [hl, hr] at h
    | some rest =>
    simp only [hl, hr, Option.some.injEq] at h; subst h
    obtain ⟨x, h1, h2, h3⟩ := hs.env b _ hg
    obtain ⟨xs, h4, h5⟩ := res_sound hT hs hr
    cases h2 with | one _ _ hc =>
    obtain ⟨y, h6, h7, h8⟩ := load_sound (P := C.P) (look := fun id => σ[id]?) hT hs.rs (fun _ _ h => h) hl hc
    refine ⟨y :: xs, ?_, .cons h7 h8 h5⟩
    rw [List.mapM_cons]
    have hx : a.tmps.getD b Go.undef = x := by simp [h1]
    have hload : (resRun a.tmps (.cell b t)).run C.P w = .ok y w := by
      simp only [resRun]
      rw [hx]
      cases x with
      | pointer ad =>
        cases ad with
        | none =>
          have h6' : (Instr.loadAt t (.pointer none)).run C.P w = .ok y w := h6
          simp [Instr.loadAt, Instr.sureAddr, stuck, Result.andThen] at h6'
        | some ad => exact h6
      | _ =>
        exfalso
        simp [Instr.loadAt, Instr.sureAddr, stuck, Result.andThen] at h6
    rw [run_bind hload, run_bind h4]; rfl
theorem fvs_spec : ∀ {vs : List V} {xs : List FV}, fvs vs = some xs → xs.length = vs.length ∧ ∀ (i : Nat) (x : FV), xs[i]? = some x → ∃ v, vs[i]? = some v ∧ v.fv = some x
  | [], xs, h => by simp only [fvs, Option.some.injEq] at h; subst h; exact ⟨rfl, fun i x h => by simp at h⟩
  | v :: r, xs, h => by
    simp only [fvs] at h
    cases h1 : v.fv with
    | none => simp [h1] at h
    | some y =>
    cases h2 : fvs r with
    | none => simp [h1, h2] at h
    | some ys =>
    simp only [h1, h2, Option.some.injEq] at h; subst h
    obtain ⟨h3, h4⟩ := fvs_spec h2
    refine ⟨by simp [h3], fun i x hi => ?_⟩
    cases i with
    | zero => simp at hi; subst hi; exact ⟨v, rfl, h1⟩
    | succ i => simpa using h4 i x (by simpa using hi)
theorem tupled_sound {κ w L} {vs : List V} {v : V} {xs : List Value} (h : tupled vs = some v) (hx : RVs κ w L vs xs) :
    ∃ y, (if h : xs.toArray.size = 1 then xs.toArray[0] else .tuple xs.toArray) = y ∧ RV κ w v y ∧ v.under L = true := by
  unfold tupled at h
  split at h
  · rename_i u
    injection h with h; subst h
    match xs, hx with
    | [x], hx =>
      obtain ⟨h1, h2⟩ := hx.2 0 u x rfl rfl
      exact ⟨x, by simp, h1, h2⟩
    | [], hx => have := hx.1; simp at this
    | _ :: _ :: _, hx => have := hx.1; simp at this
  · rename_i hne
    cases hf : fvs vs with
    | none => simp [hf] at h
    | some fs =>
    simp only [hf, Option.some.injEq] at h; subst h
    obtain ⟨h1, h2⟩ := fvs_spec hf
    have hlen : xs.toArray.size ≠ 1 := by
      intro h1
      have : vs.length = 1 := by rw [hx.1]; simpa using h1
      match vs, this with
      | [u], _ => exact hne u rfl
    refine ⟨.tuple xs.toArray, by rw [dif_neg hlen], .tup _ _ (by rw [h1, hx.1]; simp) fun i x y hi hy => ?_, ?_⟩
    · obtain ⟨v, h3, h4⟩ := h2 i x hi
      exact fv_sound h4 (hx.2 i v y h3 (by simpa using hy)).1
    · simp only [V.under, List.all_eq_true]
      intro x hm
      obtain ⟨i, hi⟩ := List.mem_iff_getElem?.1 hm
      obtain ⟨v, h3, h4⟩ := h2 i x hi
      have hlt : i < xs.length := by rw [← hx.1]; exact (List.getElem?_eq_some_iff.1 h3).1
      exact fv_under h4 (hx.2 i v xs[i] h3 (List.getElem?_eq_getElem hlt)).2
theorem Spec.body [HasGlob] (hT : C.T.fits C.P) {f : FuncId} {fn : Func} {c : Code} {args : List V} {R : V → St → Prop} (hf : C.P.funcs[f]? = some fn) (hb : fn.body = some c) (hn : C.n ≤ fn.ntmps)
    (hnm : (fn.name == "runtime.NumGoroutine") = false)
    (h : W C c (initEnv 0 args) σ fun ex e' σ' => (ex = .normal ∨ ex = .ret) ∧ Fin C fn.results.toList σ.length e' σ' R) : Spec C.P f args σ R := by
  refine ⟨⟨fn, hf, hnm, by simp [hb]⟩, fun κ w xs hR hx => calls_of_wp hf hb ?_⟩
  have hsr : SR C.n κ w (initEnv 0 args) σ { tmps := xs.toArray ++ Array.replicate (fn.ntmps - xs.toArray.size) Go.undef, defers := [] } := by
    refine ⟨fun t v ht => ?_, hR, rfl, ?_⟩
    · obtain ⟨_, h1⟩ := initEnv_get args 0 t v ht
      rw [Nat.sub_zero] at h1
      have hlt : t < xs.length := by rw [← hx.1]; exact (List.getElem?_eq_some_iff.1 h1).1
      obtain ⟨h2, h3⟩ := hx.2 t v xs[t] h1 (List.getElem?_eq_getElem hlt)
      exact ⟨xs[t], by simp [Array.getElem?_append, hlt], h2, h3⟩
    · simp; omega
  refine wp_mono (h κ w _ hsr) fun x a' w' hxx => ?_
  obtain ⟨ex, e', σ', κ', rfl, ⟨hex, vs, v, r, σ'', h1, h2, h3, h4, h5⟩, hev, hs⟩ := hxx
  have fin : a'.defers = [] ∧ ∃ v, (results fn a'.tmps).run C.P w' = .ok v w' ∧
      ∃ x r κ' σ', Ending.returned v = .returned x ∧ R r σ' ∧ RV κ' w' r x ∧ r.under (alive σ') = true ∧ Evo κ w σ κ' w' σ' ∧ RS κ' w' σ' := by
    refine ⟨hs.defers, ?_⟩
    obtain ⟨ys, g1, g2⟩ := res_sound hT hs h1
    obtain ⟨y, g3, g4, g5⟩ := tupled_sound h2 g2
    have hrv : RV κ' w' r y ∧ r.under (alive σ') = true := by
      rcases h3 with rfl | h3
      · exact ⟨g4, g5⟩
      · exact ⟨snapV_sound hs.rs (fun _ _ h => h) h3 g4, snapV_under h3 g5⟩
    refine ⟨y, ?_, y, r, κ', σ'', rfl, h5, hrv.1, ?_⟩
    · unfold results
      rw [Array.mapM_eq_mapM_toList]
      have hm : (List.toArray <$> (fn.results.toList.mapM (resRun a'.tmps))).run C.P w' = .ok ys.toArray w' := by
        rw [Sem.run_map, g1]; rfl
      have he : (fun r : ResultVar => match r with
        | .tmp t => (pure (a'.tmps.getD t Go.undef) : Sem Value)
        | .cell b t => do loadVar t (← asAddr (a'.tmps.getD b Go.undef))) = resRun a'.tmps := by
        funext r; cases r <;> rfl
      refine (run_bind (a := ys.toArray) (w' := w') ?_).trans ?_
      · rw [← hm]; exact congrArg (fun g => (List.toArray <$> (fn.results.toList.mapM g)).run C.P w') he
      · rw [← g3]; rfl
    · rcases h4 with rfl | ⟨rfl, h6, h7⟩
      · exact ⟨hrv.2, hev, hs.rs⟩
      · exact ⟨h6, hev.take (Nat.le_refl _), hs.rs.take h7⟩
  rcases hex with rfl | rfl
  · exact fin
  · exact fin
end
end Go.Am
