/- The abstract machine: every operation is sound. -/
import Derived.Test.YtfbocpbeogkapaaAmOps7
import Derived.Laws.StructEq
set_option linter.unusedVariables false
set_option linter.unusedSimpArgs false
namespace Go.Am

theorem upd_nil (σ : St) : St.upd σ [] = σ := rfl
theorem upd_one (σ : St) (id : Nat) (o : Ob) : St.upd σ [(id, o)] = σ.set id o := rfl

/-! comparing -/
section
variable {P : Program} {T : Tab} {κ : K} {w : World}
theorem eqOne_sound (hT : T.fits P) {t : TypeId} {a b : Value} {r : Bool} (h : eqOne T t a b = some r) (d : Nat) : (Op.equalIn (d + 1) t a b).run P w = .ok r w := by
  unfold eqOne at h
  split at h
  · rename_i kt k x k' y hu
    cases hk : decide (k = k') with
    | false => rw [hk] at h; simp at h
    | true =>
      rw [hk] at h; simp only [cond_true, Option.some.injEq] at h; subst h
      have := of_decide_eq_true hk; subst this
      exact run_equalIn_int w d t _ _ _ _ (Tab.und_sound hT hu)
  · rename_i hu
    injection h with h; subst h
    exact run_equalIn_bool' w d t _ _ (Tab.und_sound hT hu)
  · rename_i hu
    injection h with h; subst h
    rw [beq_toListBytes]
    exact run_equalIn_string w d t _ _ (Tab.und_sound hT hu)
  · simp at h
theorem eqOne_flat {t : TypeId} {a b : Value} {r : Bool} (h : eqOne T t a b = some r) : T.agg t = some false := by
  unfold eqOne at h
  unfold Tab.agg
  split at h
  · rename_i hu; rw [hu]
  · rename_i hu; rw [hu]
  · rename_i hu; rw [hu]
  · simp at h
theorem eqFs_sound (hT : T.fits P) (d : Nat) : ∀ {fs : List Field} {vs us : List Value} {r : Bool}, (∀ f ∈ fs, f.name ≠ "_") → eqFs T fs vs us = some r → (Op.eqFields (d + 1) vs.toArray us.toArray fs).run P w = .ok r w
  | [], vs, us, r, _, h => by simp only [eqFs, Option.some.injEq] at h; subst h; rfl
  | f :: fs, vs, us, r, hn, h => by
    simp only [eqFs] at h
    cases ha : vs[f.offset]? with
    | none => simp [ha] at h
    | some a =>
    cases hb : us[f.offset]? with
    | none => simp [ha, hb] at h
    | some b =>
    simp only [ha, hb] at h
    cases h1 : eqOne T f.type a b with
    | none => simp [h1] at h
    | some p =>
    cases h2 : eqFs T fs vs us with
    | none => simp [h1, h2] at h
    | some q =>
    simp only [h1, h2, Option.some.injEq] at h; subst h
    have hp : ∀ {zs : List Value} {z : Value}, zs[f.offset]? = some z → (part f.type zs.toArray f.offset).run P w = .ok z w := fun {zs z} hz => by
      unfold part
      rw [run_bind (run_isAgg hT (eqOne_flat h1))]
      simp [hz]
    rw [Op.eqFields.eq_2, if_pos (hn f (by simp)), run_bind (hp ha), run_bind (hp hb), run_bind (eqOne_sound hT h1 d)]
    cases p with
    | true => simpa using eqFs_sound hT d (fun g hg => hn g (by simp [hg])) h2
    | false => rfl
theorem Tab.eqOk_sound (hT : T.fits P) {t : TypeId} (h : T.eqOk t = true) : eqTypeOk P t = true := by
  cases T with
  | eqs l T' => exact hT.1 t (by simpa [Tab.eqOk] using h)
  | _ => simp [Tab.eqOk] at h
theorem scalCells_length : ∀ {cs : List Cell} {vs : List Value}, scalCells cs = some vs → True := fun _ => trivial
theorem eqVal_sound (hT : T.fits P) {t : TypeId} {fixed : Bool} {x y : V} {r : Bool} (h : eqVal T t fixed x y = some r) {a b : Value} (ha : RV κ w x a) (hb : RV κ w y b) {X Y : Operand} (op : BinOp) (hf : fixed = true → (isConst X || isConst Y) = true) :
    (eqGuard op t X Y a b).run P w = .ok () w ∧ ((binOp .eql t a b).run P w = .ok (.bool r) w ∧ (binOp .neq t a b).run P w = .ok (.bool (!r)) w) := by
  have scal : ∀ {u v : Value}, eqOne T t u v = some r → (eqGuard op t X Y u v).run P w = .ok () w ∧ ((binOp .eql t u v).run P w = .ok (.bool r) w ∧ (binOp .neq t u v).run P w = .ok (.bool (!r)) w) := by
    intro u v h
    have h2 := eqOne_sound (w := w) hT h 9999
    have heq : (Op.equal t u v).run P w = .ok r w := h2
    unfold eqOne at h
    split at h
    · rename_i kt k m k' n hu
      cases hk : decide (k = k') with
      | false => rw [hk] at h; simp at h
      | true =>
        rw [hk] at h; simp only [cond_true, Option.some.injEq] at h; subst h
        have := of_decide_eq_true hk; subst this
        refine ⟨by unfold eqGuard; split <;> rfl, ?_, ?_⟩
        · simp [binOp, Op.intCmp]
        · simp [binOp, Op.intCmp]; rfl
    · refine ⟨by unfold eqGuard; split <;> rfl, ?_, ?_⟩
      · simp only [binOp]; rw [run_bind heq]; rfl
      · simp only [binOp]; rw [run_bind heq]; rfl
    · injection h with h; subst h
      rw [beq_toListBytes]
      refine ⟨by unfold eqGuard; split <;> rfl, ?_, ?_⟩
      · simp only [binOp, Op.stringOp]; rfl
      · simp only [binOp, Op.stringOp]; rfl
    · simp at h
  unfold eqVal at h
  split at h
  · split at h
    · rename_i ms hu
      cases hfx : fixed with
      | false => rw [hfx] at h; simp at h
      | true =>
        rw [hfx] at h; simp only [cond_true, Option.some.injEq] at h; subst h
        cases ha with | one _ _ hc => cases hc with | d _ _ hd => cases hd with | sc _ _ =>
        cases hb with | one _ _ hc => cases hc with | d _ _ hd => cases hd with | sc _ _ =>
        have heq : (Op.equal t .nilIface .nilIface).run P w = .ok true w := by
          show (Op.equalIn (9999 + 1) t .nilIface .nilIface).run P w = _
          unfold Op.equalIn
          rw [run_bind (run_underlying hT hu)]; rfl
        refine ⟨?_, ?_, ?_⟩
        · have := hf hfx
          cases X <;> cases Y <;> first | (simp [isConst] at this; done) | (unfold eqGuard; cases op <;> rfl)
        · simp only [binOp]; rw [run_bind heq]; rfl
        · simp only [binOp]; rw [run_bind heq]; rfl
    · simp at h
  · cases ha with | one _ _ hc => cases hc with | d _ _ hd => cases hd with | sc _ _ =>
    cases hb with | one _ _ hc => cases hc with | d _ _ hd => cases hd with | sc _ _ =>
    exact scal h
  · rename_i ti g xs
    split at h
    · rename_i ms hu
      injection h with h; subst h
      cases hb with | one _ _ hc => cases hc with | d _ _ hd => cases hd with | sc _ _ =>
      have hi : ∃ z, a = .iface ti z := by
        cases ha with | one _ _ hc => cases hc with | d _ _ hd => cases hd <;> exact ⟨_, rfl⟩
      obtain ⟨z, rfl⟩ := hi
      have heq : (Op.equal t (.iface ti z) .nilIface).run P w = .ok false w := by
        show (Op.equalIn (9999 + 1) t (.iface ti z) .nilIface).run P w = _
        unfold Op.equalIn
        rw [run_bind (run_underlying hT hu)]; rfl
      refine ⟨by unfold eqGuard; split <;> rfl, ?_, ?_⟩
      · simp only [binOp]; rw [run_bind heq]; rfl
      · simp only [binOp]; rw [run_bind heq]; rfl
    · simp at h
  · rename_i xs ys
    cases hok : T.eqOk t with
    | false => rw [hok] at h; simp at h
    | true =>
    rw [hok] at h; simp only [cond_true] at h
    split at h
    · rename_i fs vs us hu hvs hus
      have e1 : a = .agg vs.toArray := scal_sound (v := .agg xs) (y := .agg vs.toArray) (by simp [V.scal, hvs]) ha
      have e2 : b = .agg us.toArray := scal_sound (v := .agg ys) (y := .agg us.toArray) (by simp [V.scal, hus]) hb
      subst e1; subst e2
      have hP := Tab.eqOk_sound hT hok
      have hund : P.underlying t = some (.struct fs) := Tab.und_sound hT hu
      simp only [eqTypeOk, hund, Bool.and_eq_true, Bool.not_eq_true', Array.all_eq_true, bne_iff_ne] at hP
      obtain ⟨⟨g1, g2⟩, g3⟩ := hP
      have hfo : P.fieldsOf t = fs := by simp [Program.fieldsOf, hund]
      have hrun : (Op.equalIn 10000 t (.agg vs.toArray) (.agg us.toArray)).run P w = .ok r w := by
        rw [run_equalIn_agg w 9999 t _ _ (by rw [hfo]; exact hund) g2, hfo]
        refine eqFs_sound hT 9998 (fun f hf => ?_) h
        obtain ⟨i, hi⟩ := List.mem_iff_getElem?.1 hf
        have hi' : fs[i]? = some f := by simpa using hi
        obtain ⟨hlt, he⟩ := Array.getElem?_eq_some_iff.1 hi'
        have := g3 i hlt
        rw [he] at this; exact this
      refine ⟨run_eqGuard_agg w op t X Y _ _ g1, ?_, ?_⟩
      · rw [run_eql_struct, hrun]; rfl
      · rw [run_neq_struct, hrun]; rfl
    · simp at h
  · simp at h
end

section
variable {C : Cx} {κ : K} {w : World} {σ : St} {look : Look} {nid : Nat} {ρ : Operand → Option V} {η : Operand → Value}

theorem noU_some {x : Option V} {v : V} {u : Upd} (h : noU x = some (v, u)) : x = some v ∧ u = [] := by
  cases x with
  | none => simp [noU] at h
  | some y => simp only [noU, Option.some.injEq, Prod.mk.injEq] at h; exact ⟨by rw [h.1], h.2.symm⟩
theorem noV_some {x : Option Upd} {v : V} {u : Upd} (h : noV x = some (v, u)) : x = some u ∧ v = .undef := by
  cases x with
  | none => simp [noV] at h
  | some y => simp only [noV, Option.some.injEq, Prod.mk.injEq] at h; exact ⟨by rw [h.2], h.1.symm⟩

theorem adopt_sound (hT : C.T.fits C.P) (hR : RS κ w σ) {mode : Option Bool} {t : TypeId} {x v : V} {u : Upd} {y : Value} (h : adopt C.T nid mode t x = some (v, u)) (hx : RV κ w x y)
    (hu : x.under (alive σ) = true) (hn : mode.isSome = true → σ[nid]? = some .dead) : OpOk κ w σ (.ok (.value y) w) v u := by
  have _ := hT
  unfold adopt at h
  cases mode with
  | none => simp only [Option.some.injEq, Prod.mk.injEq] at h; obtain ⟨rfl, rfl⟩ := h; exact .quiet hR rfl hx hu
  | some m =>
    simp only at h
    split at h
    · cases he : C.T.elem t with
      | none => simp [he] at h
      | some e =>
      cases hs : C.T.size e with
      | none => simp [he, hs] at h
      | some n =>
      simp only [he, hs, Option.some.injEq, Prod.mk.injEq] at h; obtain ⟨rfl, rfl⟩ := h
      cases hx with | one _ _ hc => cases hc with | d _ _ hd => cases hd with | sc _ _ =>
      obtain ⟨h1, h2, h3, h4⟩ := arr_nil hR (hn rfl) n m
      exact ⟨_, w, _, .inl rfl, h3, h4, h1, h2⟩
    · simp only [Option.some.injEq, Prod.mk.injEq] at h; obtain ⟨rfl, rfl⟩ := h; exact .quiet hR rfl hx hu

theorem cells_one {xs : List V} {cs : List Cell} : xs.mapM V.cell = some cs → xs = cs.map .one := by
  induction xs generalizing cs with
  | nil => intro h; simp at h; subst h; rfl
  | cons x r ih =>
    intro h
    simp only [List.mapM_cons, Option.bind_eq_bind, Option.pure_def] at h
    cases hx : x.cell with
    | none => simp [hx] at h
    | some c =>
    cases hr : r.mapM V.cell with
    | none => simp [hx, hr] at h
    | some rs =>
    simp only [hx, hr, Option.bind_some, Option.some.injEq] at h; subst h
    cases x <;> simp only [V.cell, Option.some.injEq, reduceCtorEq] at hx
    subst hx
    rw [ih hr]; rfl

theorem mapM_sound {xs : List Operand} {L : Nat → Bool} (hρ : ∀ x v, ρ x = some v → RV κ w v (η x) ∧ v.under L = true) : ∀ {vs : List V}, xs.mapM ρ = some vs →
    vs.length = xs.length ∧ ∀ (i : Nat) (v : V), vs[i]? = some v → ∃ x, xs[i]? = some x ∧ RV κ w v (η x) ∧ v.under L = true := by
  induction xs with
  | nil => intro vs h; simp at h; subst h; exact ⟨rfl, fun i v h => by simp at h⟩
  | cons x r ih =>
    intro vs h
    simp only [List.mapM_cons, Option.bind_eq_bind, Option.pure_def] at h
    cases hx : ρ x with
    | none => simp [hx] at h
    | some v =>
    cases hr : r.mapM ρ with
    | none => simp [hx, hr] at h
    | some rs =>
    simp only [hx, hr, Option.bind_some, Option.some.injEq] at h; subst h
    obtain ⟨h1, h2⟩ := ih hr
    refine ⟨by simp [h1], fun i u hu => ?_⟩
    cases i with
    | zero => simp at hu; subst hu; exact ⟨x, rfl, hρ x v hx⟩
    | succ i => simpa using h2 i u (by simpa using hu)

theorem bound_sound {x : Option Operand} {b : Option Int} (hρ : ∀ x v, ρ x = some v → RV κ w v (η x)) (h : bound ρ x = some b) : isBound b (x.map η) := by
  cases x with
  | none => simp only [bound, Option.some.injEq] at h; subst h; trivial
  | some x =>
    simp only [bound] at h
    cases hx : ρ x with
    | none => simp [hx] at h
    | some v =>
    simp only [hx] at h
    cases hi : v.int with
    | none => simp [hi] at h
    | some n =>
    simp only [hi, Option.some.injEq] at h; subst h
    have := hρ x v hx
    unfold V.int at hi
    split at hi
    · injection hi with hi; subst hi
      cases this with | one _ _ hc => cases hc with | d _ _ hd =>
      generalize hy : η x = y at hd
      cases hd with | sc _ _ => simp [isBound, hy]
    · simp at hi

theorem exec_builtin (P : Program) (η : Operand → Value) (dst : Option Tmp) (b : Builtin) (xs : Array Operand) (ts : Array TypeId) (type : TypeId) (pos : String) (after : Array Edge) (guard : Option (Nat × Bool)) :
    ∃ cs, (execOp η { dst, op := .call { callee := .builtin b, args := xs, argTypes := ts }, type, pos, after, guard }).run P w = (builtin b ts type cs (xs.map η)).run P w := ⟨_, rfl⟩

theorem core_sound (hT : C.T.fits C.P) (hR : RS κ w σ) (hl : Sees σ look) {o : Oper} (hρ : ∀ x v, ρ x = some v → RV κ w v (η x) ∧ v.under (alive σ) = true)
    (hn : makes C o = true → σ[nid]? = some .dead) {v : V} {u : Upd} (h : core C nid ρ look o = some (v, u)) : OpOk κ w σ ((execOp η o).run C.P w) v u := by
  have hρ' : ∀ x v, ρ x = some v → RV κ w v (η x) := fun x v h => (hρ x v h).1
  have scal : ∀ {v u}, noU (scalOp C.P ρ o) = some (v, u) → OpOk κ w σ ((execOp η o).run C.P w) v u := by
    intro v u h
    obtain ⟨h1, rfl⟩ := noU_some h
    obtain ⟨y, h2, h3, h4⟩ := scalOp_sound (w := w) hρ' h1
    exact .quiet hR h2 h3 (h4 _)
  obtain ⟨dst, op, type, pos, after, guard⟩ := o
  unfold core at h
  simp only at h
  unfold makes at hn
  simp only at hn
  split at h
  · -- move
    rename_i x
    cases hx : ρ x with
    | none => simp [hx] at h
    | some a => simp only [hx] at h; exact adopt_sound hT hR h (hρ x a hx).1 (hρ x a hx).2 hn
  · rename_i x
    cases hx : ρ x with
    | none => simp [hx] at h
    | some a => simp only [hx] at h; exact adopt_sound hT hR h (hρ x a hx).1 (hρ x a hx).2 hn
  · -- pick
    rename_i c a b
    split at h
    · rename_i t hc
      have hcb := hρ' c _ hc
      have hbool : η c = .bool t := by
        generalize hy : η c = y at hcb
        cases hcb with | one _ _ hc => cases hc with | d _ _ hd => cases hd with | sc _ _ => rfl
      cases t with
      | true =>
        simp only [cond_true] at h
        obtain ⟨h1, rfl⟩ := noU_some h
        exact .quiet hR (by simp only [execOp, hbool]; rfl) (hρ a v h1).1 (hρ a v h1).2
      | false =>
        simp only [cond_false] at h
        obtain ⟨h1, rfl⟩ := noU_some h
        exact .quiet hR (by simp only [execOp, hbool]; rfl) (hρ b v h1).1 (hρ b v h1).2
    · simp at h
  · -- alloc
    rename_i t
    cases hz : zeroCells C.T t with
    | none => simp [hz] at h
    | some z =>
    simp only [hz, Option.some.injEq, Prod.mk.injEq] at h; obtain ⟨rfl, rfl⟩ := h
    obtain ⟨zv, hz1, rfl, hz2⟩ := zeroCells_of hz
    have hrun : (Instr.alloc t true (.tuple #[])).run C.P w = .ok (.pointer (some ⟨w.heap.size, 0, none⟩)) (alloc w (.cells zv.cells t)) := by
      unfold Instr.alloc
      rw [run_bind (run_zeroValue hT hz1)]
      simp only
      rw [run_bind (run_newVar t zv)]; rfl
    obtain ⟨h1, h2, h3, h4⟩ := var_made (nid := nid) hR (hn rfl) (Grew.alloc w (.cells zv.cells t)) (RCs.ofCells hz2) (underAll_ofCells _)
    exact ⟨_, _, _, .inl (by simp only [execOp]; rw [run_bind hrun]; rfl), h3, h4, h1, h2⟩
  · -- box
    rename_i t x
    cases hx : ρ x with
    | none => simp [hx] at h
    | some a =>
    simp only [hx] at h
    cases hc : a.cells with
    | none => simp [hc] at h
    | some cs =>
    simp only [hc, Option.some.injEq, Prod.mk.injEq] at h; obtain ⟨rfl, rfl⟩ := h
    have hrun : (Instr.box t (η x)).run C.P w = .ok (.pointer (some ⟨w.heap.size, 0, none⟩)) (alloc w (.cells (η x).cells t)) := by
      unfold Instr.box
      rw [run_bind (run_newVar t (η x))]; rfl
    obtain ⟨h1, h2, h3, h4⟩ := var_made (nid := nid) hR (hn rfl) (Grew.alloc w (.cells (η x).cells t)) (cells_sound (hρ x a hx).1 hc) (cells_under (hρ x a hx).2 hc)
    exact ⟨_, _, _, .inl (by simp only [execOp]; rw [run_bind hrun]; rfl), h3, h4, h1, h2⟩
  · -- load
    rename_i t a
    split at h
    · rename_i c hc
      obtain ⟨h1, rfl⟩ := noU_some h
      have hav := (hρ a _ hc).1
      generalize hy : η a = y at hav
      cases hav with | one _ _ hcc =>
      obtain ⟨z, h2, h3, h4⟩ := load_sound (P := C.P) hT hR hl h1 hcc
      exact .quiet hR (by simp only [execOp, hy]; rw [run_bind h2]; rfl) h3 h4
    · simp at h
  · -- store
    rename_i t a x
    split at h
    · rename_i c xv hc hx
      cases hcs : xv.cells with
      | none => simp [hcs] at h
      | some cs =>
      simp only [hcs] at h
      obtain ⟨h1, rfl⟩ := noV_some h
      have hav := (hρ a _ hc).1
      generalize hy : η a = y at hav
      cases hav with | one _ _ hcc =>
      have := store_sound (P := C.P) hT hR hl h1 hcc (hρ x _ hx).1 hcs (hρ x _ hx).2
      simp only [execOp, hy]; exact this
    · simp at h
  · -- nilCheck
    rename_i x
    cases hx : ρ x with
    | none => simp [hx] at h
    | some a =>
    simp only [hx] at h
    obtain ⟨h1, rfl⟩ := noU_some h
    obtain ⟨h2, rfl⟩ := nilChecked_sound (P := C.P) (w := w) (o := { dst, op := .nilCheck x, type, pos, after, guard }) rfl rfl h1 (hρ x a hx).1
    exact .quiet hR h2 (hρ x _ hx).1 (hρ x _ hx).2
  · -- fieldAddr
    rename_i t x f
    cases hx : ρ x with
    | none => simp [hx] at h
    | some a =>
    simp only [hx] at h
    obtain ⟨h1, rfl⟩ := noU_some h
    obtain ⟨z, h2, h3, h4⟩ := fieldAddr_sound (P := C.P) hT h1 (hρ x a hx).1 (hρ x a hx).2
    exact .quiet hR (by simp only [execOp]; rw [run_bind h2]; rfl) h3 h4
  · -- field
    rename_i t x f
    cases hx : ρ x with
    | none => simp [hx] at h
    | some a =>
    simp only [hx] at h
    obtain ⟨h1, rfl⟩ := noU_some h
    obtain ⟨z, h2, h3, h4⟩ := fieldOf_sound (P := C.P) hT h1 (hρ x a hx).1 (hρ x a hx).2
    exact .quiet hR (by simp only [execOp]; rw [run_bind h2]; rfl) h3 h4
  · -- indexAddr
    rename_i t x i
    split at h
    · rename_i xv k n hx hi
      obtain ⟨h1, rfl⟩ := noU_some h
      have hiv := (hρ i _ hi).1
      generalize hy : η i = y at hiv
      cases hiv with | one _ _ hc => cases hc with | d _ _ hd => cases hd with | sc _ _ =>
      obtain ⟨z, h2, h3, h4⟩ := indexAddr_sound (P := C.P) (k := k) hT hR hl h1 (hρ x _ hx).1 (hρ x _ hx).2
      exact .quiet hR (by simp only [execOp, hy]; rw [run_bind h2]; rfl) h3 h4
    · simp at h
  · -- index
    rename_i t x i
    split at h
    · rename_i xv k n hx hi
      obtain ⟨h1, rfl⟩ := noU_some h
      have hiv := (hρ i _ hi).1
      generalize hy : η i = y at hiv
      cases hiv with | one _ _ hc => cases hc with | d _ _ hd => cases hd with | sc _ _ =>
      obtain ⟨z, h2, h3, h4⟩ := indexOf_sound (P := C.P) (k := k) hT h1 (hρ x _ hx).1 (hρ x _ hx).2
      exact .quiet hR (by simp only [execOp, hy]; rw [run_bind h2]; rfl) h3 h4
    · simp at h
  · -- extract
    rename_i x k
    split at h
    · rename_i xs hx
      cases hk : xs[k]? with
      | none => simp [hk] at h
      | some f =>
      simp only [hk, Option.some.injEq, Prod.mk.injEq] at h; obtain ⟨rfl, rfl⟩ := h
      obtain ⟨hv, hu⟩ := hρ x _ hx
      generalize hy : η x = y at hv
      cases hv with | tup _ vs hlen hall =>
      have hlt : k < vs.size := by have := (List.getElem?_eq_some_iff.1 hk).1; omega
      have hf := hall k f vs[k] hk (Array.getElem?_eq_getElem hlt)
      refine .quiet hR (x := vs[k]) ?_ hf.toV ?_
      · simp only [execOp, hy]
        have : (Instr.extract (.tuple vs) k).run C.P w = .ok vs[k] w := by
          simp only [Instr.extract, Array.getElem?_eq_getElem hlt]; rfl
        rw [run_bind this]; rfl
      · simp only [V.under, List.all_eq_true] at hu
        exact (FV.v_under).trans (hu f (List.mem_of_getElem? hk))
    · simp at h
  · -- slice
    rename_i t x lo hi
    split at h
    · rename_i xv l q hx hlo hhi
      have := slice_sound (P := C.P) hT hR hl h (hρ x _ hx).1 (hρ x _ hx).2 (bound_sound hρ' hlo) (bound_sound hρ' hhi)
      simpa only [execOp, Option.map_none] using this
    · simp at h
  · -- build
    rename_i t parts
    cases hp : partsOf ρ parts.toList with
    | none => simp [hp] at h
    | some qs =>
    simp only [hp] at h
    cases hb : buildOf C.T t qs with
    | none => simp [hb] at h
    | some cs =>
    simp only [hb, Option.some.injEq, Prod.mk.injEq] at h; obtain ⟨rfl, rfl⟩ := h
    obtain ⟨h1, h2⟩ := parts_sound (κ := κ) (w := w) (η := η) hρ hp
    obtain ⟨c, h3, h4, h5⟩ := build_sound (P := C.P) hT hb (ps := parts.map fun (i, x) => (i, η x)) (by simpa using h1) h2
    exact .quiet hR (by simp only [execOp]; rw [run_bind h3]; rfl) (.agg _ _ h4) h5
  · -- buildSlice
    rename_i t len parts
    cases hp : partsOf ρ parts.toList with
    | none => simp [hp] at h
    | some qs =>
    simp only [hp] at h
    cases hb : buildSliceOf C.T t len qs look with
    | none => simp [hb] at h
    | some r =>
    obtain ⟨n, rows⟩ := r
    simp only [hb] at h
    obtain ⟨h1, h2⟩ := parts_sound (κ := κ) (w := w) (η := η) hρ hp
    obtain ⟨c, E, h3, h4, h5, h6⟩ := buildSlice_run (P := C.P) hT hR hl hb (ps := parts.map fun (i, x) => (i, η x)) (by simpa using h1)
    exact arr_or_list hR (by simp only [execOp]; rw [run_bind h3]; rfl) (Grew.alloc w _) h4 h5 h6 hn h
  · -- makeInterface
    rename_i t x
    split at h
    · rename_i a hi hx
      obtain ⟨h1, rfl⟩ := noU_some h
      obtain ⟨h2, h3, h4⟩ := iface_sound (P := C.P) hT hR hl hi h1 (hρ x _ hx).1
      exact .quiet hR (by simp only [execOp]; rw [run_bind h2]; rfl) h3 (h4 _)
    · simp at h
  · -- makeFunc
    rename_i f first captured
    cases hf : first.toList.mapM ρ with
    | none => simp [hf] at h
    | some fs =>
    cases hc : captured.toList.mapM ρ with
    | none => simp [hf, hc] at h
    | some cs =>
    simp only [hf, hc] at h
    cases hf1 : fs.mapM V.cell with
    | none => simp [hf1] at h
    | some fs' =>
    cases hc1 : cs.mapM V.cell with
    | none => simp [hf1, hc1] at h
    | some cs' =>
    simp only [hf1, hc1, Option.some.injEq, Prod.mk.injEq] at h; obtain ⟨rfl, rfl⟩ := h
    have hfe := cells_one hf1
    have hce := cells_one hc1
    subst hfe; subst hce
    obtain ⟨h1, h2⟩ := mapM_sound (κ := κ) (w := w) (η := η) hρ hf
    obtain ⟨h3, h4⟩ := mapM_sound (κ := κ) (w := w) (η := η) hρ hc
    have key : ∀ (ops : Array Operand) (cs : List Cell), (∀ (i : Nat) (v : V), (cs.map V.one)[i]? = some v → ∃ x, ops.toList[i]? = some x ∧ RV κ w v (η x) ∧ v.under (alive σ) = true) →
        (∀ (i : Nat) (c : Cell), cs[i]? = some c → RC κ w c ((ops.map η).getD i undef)) ∧ underAll (alive σ) cs = true := by
      intro ops cs hall
      refine ⟨fun i c hi => ?_, underAll_of fun i c hi => ?_⟩
      · obtain ⟨x, hx, hv, _⟩ := hall i (.one c) (by simp [hi])
        cases hv with | one _ _ hrc =>
        obtain ⟨hlt, hx'⟩ := Array.getElem?_eq_some_iff.1 (by rw [Array.getElem?_toList] at hx; exact hx)
        simpa [hlt, hx'] using hrc
      · obtain ⟨x, _, _, hu⟩ := hall i (.one c) (by simp [hi])
        exact hu
    obtain ⟨k1, k2⟩ := key first fs' h2
    obtain ⟨k3, k4⟩ := key captured cs' h4
    refine .quiet hR (x := .func f (first.map η) (captured.map η)) ?_ (.one _ _ (.fn _ _ _ _ _ (by simpa using h1) (by simpa using h3) k1 k3)) ?_
    · simp only [execOp]; rfl
    · simp only [V.under, Cell.under, k2, k4, Bool.and_self]
  · -- typeAssert
    rename_i x xt t ok
    cases hx : ρ x with
    | none => simp [hx] at h
    | some a =>
    simp only [hx] at h
    obtain ⟨h1, rfl⟩ := noU_some h
    obtain ⟨z, h2, h3, h4⟩ := assert_sound (P := C.P) (xt := xt) hT h1 (hρ x a hx).1
    exact .quiet hR (by simp only [execOp]; rw [run_bind h2]; rfl) h3 (h4 _)
  · -- lookup
    rename_i t m k ok
    split at h
    · rename_i mv kv hm hk
      obtain ⟨h1, rfl⟩ := noU_some h
      obtain ⟨z, h2, h3, h4⟩ := lookup_sound (P := C.P) hT hR hl h1 (hρ m _ hm).1 (hρ k _ hk).1
      exact .quiet hR (by simp only [execOp]; rw [run_bind h2]; rfl) h3 h4
    · simp at h
  · -- mapUpdate
    rename_i t m k x
    split at h
    · rename_i mv kv xv hm hk hx
      obtain ⟨h1, rfl⟩ := noV_some h
      have := update_sound (P := C.P) hT hR hl h1 (hρ m _ hm).1 (hρ k _ hk).1 (hρ x _ hx).1 (hρ x _ hx).2
      simp only [execOp]; exact this
    · simp at h
  · -- makeMap
    rename_i t
    simp only [Option.some.injEq, Prod.mk.injEq] at h; obtain ⟨rfl, rfl⟩ := h
    have hrun : (Instr.makeMap t none).run C.P w = .ok (.map (some w.heap.size)) (alloc w (.map #[] 0)) := rfl
    obtain ⟨h1, h2, h3, h4⟩ := map_made (nid := nid) hR (hn rfl) (Grew.alloc w (.map #[] 0))
    exact ⟨_, _, _, .inl (by simp only [execOp, Option.map_none]; rw [run_bind hrun]; rfl), h3, h4, h1, h2⟩
  · -- makeSlice
    rename_i t l c
    split at h
    · rename_i kl lv kc cv hlv hcv
      have h1 := (hρ l _ hlv).1
      have h2 := (hρ c _ hcv).1
      generalize hy : η l = y at h1
      generalize hz : η c = z at h2
      cases h1 with | one _ _ hc => cases hc with | d _ _ hd => cases hd with | sc _ _ =>
      cases h2 with | one _ _ hc => cases hc with | d _ _ hd => cases hd with | sc _ _ =>
      have := makeSlice_sound (P := C.P) (kl := kl) (kc := kc) hT hR h hn
      simp only [execOp, hy, hz]; exact this
    · simp at h
  · -- convert
    rename_i src dst' x
    cases hx : ρ x with
    | none => simp [hx] at h
    | some a =>
    simp only [hx] at h
    cases hc : convertOf C.T src dst' a look with
    | none => simp only [hc] at h; exact scal h
    | some y =>
    simp only [hc, Option.some.injEq, Prod.mk.injEq] at h; obtain ⟨rfl, rfl⟩ := h
    have hav := (hρ x a hx).1
    generalize hy : η x = z at hav
    unfold convertOf at hc
    split at hc
    · rename_i e hsrc hdst
      split at hc
      · rename_i s he
        injection hc with hc; subst hc
        cases hav with | one _ _ hc => cases hc with | d _ _ hd => cases hd with | sc _ _ =>
        obtain ⟨cap, c, f, w', h1, h2, h3, h4⟩ := string_bytes (P := C.P) (κ := κ) (e := e) hR s
        have hlen : (s.data.toList.map fun b => ([D.sc (.int .u8 b.toNat)] : List D)).length = s.size := by simp
        obtain ⟨g1, g2, g3⟩ := list_made (cap := cap) hR h2 (by rw [hlen]; exact h3) (fun r hr => by obtain ⟨b, _, rfl⟩ := List.mem_map.1 hr; rfl) h4
        rw [hlen] at g1 g2 g3
        have hrun : (convert src dst' (.string s)).run C.P w = .ok (.slice (some ⟨w.heap.size, 0, none⟩) s.size cap) w' := by
          unfold convert
          rw [run_bind (run_underlying hT hsrc), run_bind (run_underlying hT hdst)]
          simp only
          rw [run_bind (run_underlying hT he)]
          exact h1
        exact ⟨_, _, _, .inl (by simp only [execOp, hy]; rw [run_bind hrun]; rfl), .one _ _ (.d _ _ g3), rfl, g1, g2⟩
      · simp at hc
    · rename_i e hsrc hdst
      split at hc
      · rename_i rows he hrows
        split at hc
        · simp at hc
        · rename_i bs hns hb
          injection hc with hc; subst hc
          have h1 := bytes_string (P := C.P) hR hl hrows hb hav (fun s hs => hns s hs)
          have hrun : (convert src dst' z).run C.P w = .ok (.string ⟨bs.toArray⟩) w := by
            unfold convert
            rw [run_bind (run_underlying hT hsrc), run_bind (run_underlying hT hdst)]
            have hz : ∃ a n c, z = .slice a n c := by
              unfold rowsIn at hrows
              split at hrows
              · cases hav with | one _ _ hc => cases hc with | d _ _ hd => cases hd <;> exact ⟨_, _, _, rfl⟩
              · cases hav with | one _ _ hc => cases hc with | d _ _ hd => cases hd with | sc _ _ => exact ⟨_, _, _, rfl⟩
              · exact absurd rfl (fun e => hns _ e)
              · cases hav with | one _ _ hc => cases hc with | arr _ _ _ a cap hs => exact ⟨_, _, _, rfl⟩
              · simp at hrows
            obtain ⟨za, zn, zc, rfl⟩ := hz
            simp only
            rw [run_bind (run_underlying hT he)]
            exact h1
          exact .quiet hR (by simp only [execOp, hy]; rw [run_bind hrun]; rfl) (.one _ _ (.d _ _ (.sc _ rfl))) rfl
        · simp at hc
      · simp at hc
    · rename_i k k' hsrc hdst
      split at hc
      · rename_i k0 n
        injection hc with hc; subst hc
        cases hav with | one _ _ hc => cases hc with | d _ _ hd => cases hd with | sc _ _ =>
        have hrun : (convert src dst' (.int k0 n)).run C.P w = .ok (.int k' (k'.wrap n)) w := by
          unfold convert
          rw [run_bind (run_underlying hT hsrc), run_bind (run_underlying hT hdst)]; rfl
        exact .quiet hR (by simp only [execOp, hy]; rw [run_bind hrun]; rfl) (.one _ _ (.d _ _ (.sc _ rfl))) rfl
      · simp at hc
    · simp at hc
  · -- binOp
    rename_i op t x y yt
    split at h
    · rename_i a b hx hy
      split at h
      · split at h
        · rename_i r hr
          simp only [Option.some.injEq, Prod.mk.injEq] at h; obtain ⟨rfl, rfl⟩ := h
          obtain ⟨hg, heq⟩ := eqVal_sound (κ := κ) (w := w) hT hr (hρ x _ hx).1 (hρ y _ hy).1 .eql (fun h => h)
          refine .quiet hR (x := .bool r) ?_ (.one _ _ (.d _ _ (.sc _ rfl))) rfl
          simp only [execOp]
          rw [Sem.run_bind, Sem.run_bind, hg]
          simp only [Result.andThen]
          rw [heq.1]; rfl
        · exact scal h
      · split at h
        · rename_i r hr
          simp only [Option.some.injEq, Prod.mk.injEq] at h; obtain ⟨rfl, rfl⟩ := h
          obtain ⟨hg, heq⟩ := eqVal_sound (κ := κ) (w := w) hT hr (hρ x _ hx).1 (hρ y _ hy).1 .neq (fun h => h)
          refine .quiet hR (x := .bool (!r)) ?_ (.one _ _ (.d _ _ (.sc _ rfl))) rfl
          simp only [execOp]
          rw [Sem.run_bind, Sem.run_bind, hg]
          simp only [Result.andThen]
          rw [heq.2]; rfl
        · exact scal h
      · exact scal h
    · simp at h
  · -- len
    rename_i xs ts
    split at h
    · rename_i x t hxs hts
      cases hx : ρ x with
      | none => simp [hx] at h
      | some a =>
      simp only [hx] at h
      cases hlen : lenOf C.T t look a with
      | none => simp [hlen] at h
      | some n =>
      simp only [hlen, Option.some.injEq, Prod.mk.injEq] at h; obtain ⟨rfl, rfl⟩ := h
      have hxa : xs = #[x] := by apply Array.ext'; simpa using hxs
      have hta : ts = #[t] := by apply Array.ext'; simpa using hts
      subst hxa; subst hta
      have h1 := len_sound (P := C.P) (ty := type) hT hR hl hlen (hρ x a hx).1
      refine .quiet hR (x := .int .i64 n) ?_ (.one _ _ (.d _ _ (.sc _ rfl))) rfl
      obtain ⟨cs, e⟩ := exec_builtin (w := w) C.P η dst .len #[x] #[t] type pos after guard
      rw [e, show (#[x] : Array Operand).map η = #[η x] from by simp]
      show (do pure (Next.value (← Builtin.len_ #[t] type #[η x])) : Sem Next).run C.P w = _
      rw [run_bind h1]; rfl
    · simp at h
  · -- append
    rename_i xs ts
    split at h
    · rename_i s x t t' hxs hts
      have hxa : xs = #[s, x] := by apply Array.ext'; simpa using hxs
      have hta : ts = #[t, t'] := by apply Array.ext'; simpa using hts
      subst hxa; subst hta
      have fin : ∀ {sv xv : V}, ρ s = some sv → ρ x = some xv → notInt C.T t' → appendOf C.T nid (arMode C.ar dst) t sv xv look = some (v, u) →
          OpOk κ w σ ((execOp η { dst, op := .call { callee := .builtin .append, args := #[s, x], argTypes := #[t, t'] }, type, pos, after, guard }).run C.P w) v u := by
        intro sv xv hs hx hni h
        have := append_sound (P := C.P) (ty := type) hT hR hl h (hρ s sv hs).1 (hρ x xv hx).1 hni hn
        obtain ⟨cs, e⟩ := exec_builtin (w := w) C.P η dst .append #[s, x] #[t, t'] type pos after guard
        rw [e, show (#[s, x] : Array Operand).map η = #[η s, η x] from by simp]; exact this
      split at h
      · rename_i sv xv e hs hx ht'
        exact fin hs hx ⟨_, ht', by simp⟩ h
      · rename_i sv xv hs hx ht'
        exact fin hs hx ⟨_, ht', by simp⟩ h
      · simp at h
    · simp at h
  · -- delete
    rename_i xs ts
    split at h
    · rename_i m k t t' hxs hts
      have hxa : xs = #[m, k] := by apply Array.ext'; simpa using hxs
      have hta : ts = #[t, t'] := by apply Array.ext'; simpa using hts
      subst hxa; subst hta
      split at h
      · rename_i mv kv hm hk
        cases hd : deleteOf C.T t mv kv look with
        | none => simp [hd] at h
        | some u' =>
        simp only [hd, Option.some.injEq, Prod.mk.injEq] at h; obtain ⟨rfl, rfl⟩ := h
        have := delete_sound (P := C.P) (ty := type) (t' := t') hT hR hl hd (hρ m _ hm).1 (hρ k _ hk).1
        obtain ⟨cs, e⟩ := exec_builtin (w := w) C.P η dst .delete #[m, k] #[t, t'] type pos after guard
        rw [e, show (#[m, k] : Array Operand).map η = #[η m, η k] from by simp]; exact this
      · simp at h
    · simp at h
  · exact scal h
end
end Go.Am
