/- The abstract machine: a region's operations in the order of the text; contracts of functions (Spec), and a call by one. -/
import Derived.Test.YtfbocpbeogkapaaAmCode
set_option linter.unusedVariables false
set_option linter.unusedSimpArgs false
namespace Go.Am

/-! handing on -/
section
variable {κ : K} {w : World} {σ : St} {look : Look}
theorem snap_sound (hR : RS κ w σ) (hl : Sees σ look) {c c' : Cell} {v : Value} (h : snap look c = some c') (hc : RC κ w c v) : RC κ w c' v := by
  unfold snap at h
  split at h
  · injection h with h; subst h
    cases hc with | d _ _ hd => cases hd with | sc _ _ => exact .d _ _ (.nil _ _)
  · rename_i id ep len
    cases hr : rowsOf look false id ep len with
    | none => simp [hr] at h
    | some rows =>
      simp only [hr, Option.some.injEq] at h; subst h
      cases hc with | arr _ _ _ a cap hs => exact .d _ _ (rows_sound hR hl hr hs)
  · injection h with h; subst h; exact hc
theorem snap_under {L : Nat → Bool} {c c' : Cell} (h : snap look c = some c') (hc : c.under L = true) : c'.under L = true := by
  unfold snap at h
  split at h
  · injection h with h; subst h; rfl
  · rename_i id ep len
    cases hr : rowsOf look false id ep len with
    | none => simp [hr] at h
    | some rows => simp only [hr, Option.some.injEq] at h; subst h; rfl
  · injection h with h; subst h; exact hc
theorem snapAll_sound (hR : RS κ w σ) (hl : Sees σ look) : ∀ {cs cs' : List Cell} {vs : List Value}, snapAll look cs = some cs' → RCs κ w cs vs → RCs κ w cs' vs
  | [], cs', vs, h, hc => by simp only [snapAll, Option.some.injEq] at h; subst h; exact hc
  | c :: cs, cs', [], h, hc => by have := hc.1; simp at this
  | c :: cs, cs', v :: vs, h, hc => by
    simp only [snapAll] at h
    cases h1 : snap look c with
    | none => simp [h1] at h
    | some x =>
    cases h2 : snapAll look cs with
    | none => simp [h1, h2] at h
    | some xs =>
    simp only [h1, h2, Option.some.injEq] at h; subst h
    exact .cons (snap_sound hR hl h1 hc.head) (snapAll_sound hR hl h2 hc.tail)
theorem snapAll_under {L : Nat → Bool} : ∀ {cs cs' : List Cell}, snapAll look cs = some cs' → underAll L cs = true → underAll L cs' = true
  | [], cs', h, _ => by simp only [snapAll, Option.some.injEq] at h; subst h; rfl
  | c :: cs, cs', h, hu => by
    simp only [snapAll] at h
    cases h1 : snap look c with
    | none => simp [h1] at h
    | some x =>
    cases h2 : snapAll look cs with
    | none => simp [h1, h2] at h
    | some xs =>
    simp only [h1, h2, Option.some.injEq] at h; subst h
    simp only [underAll, Bool.and_eq_true] at hu ⊢
    exact ⟨snap_under h1 hu.1, snapAll_under h2 hu.2⟩
theorem snapF_sound (hR : RS κ w σ) (hl : Sees σ look) {x x' : FV} {v : Value} (h : snapF look x = some x') (hx : RF κ w x v) : RF κ w x' v := by
  cases hx with
  | one c v hc =>
    simp only [snapF, Option.map_eq_some_iff] at h
    obtain ⟨c', h1, rfl⟩ := h; exact .one _ _ (snap_sound hR hl h1 hc)
  | agg cs vs hc =>
    simp only [snapF, Option.map_eq_some_iff] at h
    obtain ⟨c', h1, rfl⟩ := h; exact .agg _ _ (snapAll_sound hR hl h1 hc)
theorem snapFs_spec : ∀ {xs xs' : List FV}, snapFs look xs = some xs' → xs'.length = xs.length ∧ ∀ (i : Nat) (x' : FV), xs'[i]? = some x' → ∃ x, xs[i]? = some x ∧ snapF look x = some x'
  | [], xs', h => by simp only [snapFs, Option.some.injEq] at h; subst h; exact ⟨rfl, fun i x h => by simp at h⟩
  | x :: r, xs', h => by
    simp only [snapFs] at h
    cases h1 : snapF look x with
    | none => simp [h1] at h
    | some y =>
    cases h2 : snapFs look r with
    | none => simp [h1, h2] at h
    | some ys =>
    simp only [h1, h2, Option.some.injEq] at h; subst h
    obtain ⟨h3, h4⟩ := snapFs_spec h2
    refine ⟨by simp [h3], fun i x' hi => ?_⟩
    cases i with
    | zero => simp at hi; subst hi; exact ⟨x, rfl, h1⟩
    | succ i => simpa using h4 i x' (by simpa using hi)
theorem snapV_sound (hR : RS κ w σ) (hl : Sees σ look) {x x' : V} {v : Value} (h : snapV look x = some x') (hx : RV κ w x v) : RV κ w x' v := by
  cases hx with
  | one c v hc =>
    simp only [snapV, Option.map_eq_some_iff] at h
    obtain ⟨c', h1, rfl⟩ := h; exact .one _ _ (snap_sound hR hl h1 hc)
  | agg cs vs hc =>
    simp only [snapV, Option.map_eq_some_iff] at h
    obtain ⟨c', h1, rfl⟩ := h; exact .agg _ _ (snapAll_sound hR hl h1 hc)
  | tup xs vs hn hall =>
    simp only [snapV, Option.map_eq_some_iff] at h
    obtain ⟨xs', h1, rfl⟩ := h
    obtain ⟨h2, h3⟩ := snapFs_spec h1
    refine .tup _ _ (by omega) fun i x' v hi hv => ?_
    obtain ⟨x, h4, h5⟩ := h3 i x' hi
    exact snapF_sound hR hl h5 (hall i x v h4 hv)
  | undef => simp [snapV] at h
theorem snapV_under {L : Nat → Bool} {x x' : V} (h : snapV look x = some x') (hx : x.under L = true) : x'.under L = true := by
  cases x with
  | one c => simp only [snapV, Option.map_eq_some_iff] at h; obtain ⟨c', h1, rfl⟩ := h; exact snap_under h1 hx
  | agg cs => simp only [snapV, Option.map_eq_some_iff] at h; obtain ⟨c', h1, rfl⟩ := h; exact snapAll_under h1 hx
  | undef => simp [snapV] at h
  | tup xs =>
    simp only [snapV, Option.map_eq_some_iff] at h
    obtain ⟨xs', h1, rfl⟩ := h
    obtain ⟨h2, h3⟩ := snapFs_spec h1
    simp only [V.under, List.all_eq_true] at hx ⊢
    intro y hy
    obtain ⟨i, hi⟩ := List.mem_iff_getElem?.1 hy
    obtain ⟨z, h4, h5⟩ := h3 i y hi
    have := hx z (List.mem_of_getElem? h4)
    cases z with
    | one c => simp only [snapF, Option.map_eq_some_iff] at h5; obtain ⟨c', h6, rfl⟩ := h5; exact snap_under h6 this
    | agg cs => simp only [snapF, Option.map_eq_some_iff] at h5; obtain ⟨c', h6, rfl⟩ := h5; exact snapAll_under h6 this
end

/-! contracts -/
/-- arguments here and there -/
def RVs (κ : K) (w : World) (L : Nat → Bool) (args : List V) (xs : List Value) : Prop :=
  args.length = xs.length ∧ ∀ (i : Nat) (v : V) (x : Value), args[i]? = some v → xs[i]? = some x → RV κ w v x ∧ v.under L = true
theorem RVs.nil {κ w L} : RVs κ w L [] [] := ⟨rfl, fun i v x h => by simp at h⟩
theorem RVs.cons {κ w L v x vs xs} (h : RV κ w v x) (hu : v.under L = true) (k : RVs κ w L vs xs) : RVs κ w L (v :: vs) (x :: xs) :=
  ⟨by simp [k.1], fun i u y h1 h2 => by
    cases i with
    | zero => simp at h1 h2; subst h1; subst h2; exact ⟨h, hu⟩
    | succ i => exact k.2 i u y (by simpa using h1) (by simpa using h2)⟩
theorem RVs.append {κ w L vs xs us ys} (h : RVs κ w L vs xs) (k : RVs κ w L us ys) : RVs κ w L (vs ++ us) (xs ++ ys) :=
  ⟨by simp [h.1, k.1], fun i v x h1 h2 => by
    rw [List.getElem?_append] at h1 h2
    rw [← h.1] at h2
    split at h1
    · rename_i hi; rw [if_pos hi] at h2; exact h.2 i v x h1 h2
    · rename_i hi; rw [if_neg hi] at h2; exact k.2 _ v x h1 h2⟩

/-- a function with a body of its own -/
def enters (P : Program) (f : FuncId) : Prop := ∃ fn, P.funcs[f]? = some fn ∧ (fn.name == "runtime.NumGoroutine") = false ∧ fn.body.isNone = false

/-- a function, called with these values in this state, returns; R: what, and in which state -/
def Spec (P : Program) (f : FuncId) (args : List V) (σ : St) (R : V → St → Prop) : Prop :=
  enters P f ∧ ∀ κ w xs, RS κ w σ → RVs κ w (alive σ) args xs →
    Calls P f xs.toArray w fun en w' => ∃ x r κ' σ', en = .returned x ∧ R r σ' ∧ RV κ' w' r x ∧ r.under (alive σ') = true ∧ Evo κ w σ κ' w' σ' ∧ RS κ' w' σ'

theorem Spec.mono {P f args σ R R'} (h : Spec P f args σ R) (hr : ∀ r σ', R r σ' → R' r σ') : Spec P f args σ R' :=
  ⟨h.1, fun κ w xs hR hx => (h.2 κ w xs hR hx).mono fun _ _ ⟨x, r, κ', σ', h1, h2, h3⟩ => ⟨x, r, κ', σ', h1, hr _ _ h2, h3⟩⟩

/-- a contract of a function that only computes -/
def Comp (P : Program) (f : FuncId) (args : List V) (r : V) : Prop := Spec P f args [] fun r' σ' => r' = r ∧ σ' = []

/-! the operations of a region -/
def WO (C : Cx) (ops : Array Oper) (l : List Nat) (e : Env) (σ : St) (Q : Env → St → Prop) : Prop :=
  ∀ κ w a, SR C.n κ w e σ a → wpOps C.P ops (fun x a' w' => x = .normal ∧ ∃ e' σ' κ', Q e' σ' ∧ Evo κ w σ κ' w' σ' ∧ SR C.n κ' w' e' σ' a') l a w

section
variable {C : Cx} {ops : Array Oper} {l : List Nat} {e : Env} {σ : St} {Q : Env → St → Prop} {i : Nat} {o : Oper}

theorem wpOps_mono {P : Program} {Q Q' : Exit → Act → World → Prop} (hq : ∀ x a w, Q x a w → Q' x a w) : ∀ (l : List Nat) (a : Act) (w : World), wpOps P ops Q l a w → wpOps P ops Q' l a w
  | [], a, w, h => hq _ _ _ h
  | i :: l, a, w, h => by
    simp only [wpOps] at h ⊢
    cases ho : ops[i]? with
    | none => simp only [ho] at h ⊢; exact wpOps_mono hq l a w h
    | some o =>
      simp only [ho] at h ⊢
      split
      · rename_i hw
        simp only [hw, if_true] at h
        rcases h with h | ⟨h1, a0, w0, h2⟩
        · left
          unfold Oper.wp at h ⊢
          generalize (execOp a.eval o).run P w = r at h ⊢
          cases r with
          | halt x w' =>
            cases x <;> simp only [Oper.upon] at h ⊢
            · exact hq _ _ _ h
          | ok n w' =>
            cases n <;> simp only [Oper.upon] at h ⊢
            · exact wpOps_mono hq l _ _ h
            · exact wpOps_mono hq l _ _ h
            · refine h.mono fun en w'' hh => ?_
              cases en with
              | returned v => exact wpOps_mono hq l _ _ hh
              | panicked ch => exact hq _ _ _ hh
              | outgrown => obtain ⟨a1, w1, h1⟩ := hh; exact ⟨a1, w1, hq _ _ _ h1⟩
            · exact wpOps_mono hq l _ _ h
            · exact Rows.mono h fun v w'' hh => wpOps_mono hq l _ _ hh
        · exact .inr ⟨h1, a0, w0, hq _ _ _ h2⟩
      · rename_i hw
        simp only [hw] at h
        exact wpOps_mono hq l _ _ h

theorem W.region {id : Nat} {Q : Ex → Env → St → Prop} (h : WO C ops (List.range ops.size) e σ fun e' σ' => Q .normal e' σ') : W C (.region id ops false) e σ Q :=
  fun κ w a hs => wp_region (wpOps_mono (fun x a' w' ⟨hx, e', σ', κ', h1, h2⟩ => ⟨.normal, e', σ', κ', hx, h1, h2⟩) _ _ _ (h κ w a hs))

theorem WO.nil (h : Q e σ) : WO C ops [] e σ Q := fun κ w a hs => ⟨rfl, e, σ, κ, h, .refl, hs⟩

theorem guard_sound {N κ w a} (hs : SR N κ w e σ a) {g : Bool} (h : guardOk e ops.toList o = some g) : Region.wanted o (yielded ops a.tmps) = g := by
  unfold guardOk at h
  unfold Region.wanted
  cases hg : o.guard with
  | none => simp only [hg, Option.some.injEq] at h; exact h
  | some p =>
    obtain ⟨j, want⟩ := p
    simp only [hg] at h ⊢
    rw [Array.getElem?_toList] at h
    cases hp : ops[j]? with
    | none => simp [hp] at h
    | some q =>
    simp only [hp] at h
    cases hd : q.dst with
    | none => simp [hd] at h
    | some t =>
    simp only [hd] at h
    split at h
    · rename_i b hb
      injection h with h; subst h
      obtain ⟨x, h1, h2, _⟩ := hs.env t _ hb
      have hx : x = .bool b := by cases h2 with | one _ _ hc => cases hc with | d _ _ hd => cases hd with | sc _ _ => rfl
      subst hx
      simp only [yielded, hp, Option.bind_some, hd, h1]
      cases b <;> cases want <;> rfl
    · rename_i hb
      injection h with h; subst h
      obtain ⟨x, h1, h2, _⟩ := hs.env t _ hb
      cases h2 with | undef =>
      simp only [yielded, hp, Option.bind_some, hd, h1, Go.undef]
      rfl
    · simp at h

theorem WO.later {κ w κ' w' σ' e' a'} (hev : Evo κ w σ κ' w' σ') (h : WO C ops l e' σ' Q) (hs : SR C.n κ' w' e' σ' a') :
    wpOps C.P ops (fun x a'' w'' => x = .normal ∧ ∃ e'' σ'' κ'', Q e'' σ'' ∧ Evo κ w σ κ'' w'' σ'' ∧ SR C.n κ'' w'' e'' σ'' a'') l a' w' :=
  wpOps_mono (fun _ _ _ ⟨hx, e'', σ'', κ'', h1, h2, h3⟩ => ⟨hx, e'', σ'', κ'', h1, hev.trans h2, h3⟩) _ _ _ (h κ' w' a' hs)

/-- does a destination lie among the temporaries? -/
def dstOk (n : Nat) (o : Oper) : Bool :=
  match o.dst with
  | some t => Nat.blt t n
  | none => true
theorem dstOk_spec {n : Nat} (h : dstOk n o = true) : ∀ t, o.dst = some t → t < n := by
  intro t ht
  simp only [dstOk, ht] at h
  exact Nat.le_of_ble_eq_true h

theorem WO.skip (ho : ops[i]? = some o) (hg : guardOk e ops.toList o = some false) (hd : dstOk C.n o = true) (h : WO C ops l (Env.put e o.dst .undef) σ Q) : WO C ops (i :: l) e σ Q := by
  intro κ w a hs
  simp only [wpOps, ho, guard_sound hs hg, Bool.false_eq_true, if_false]
  exact h κ w _ (hs.put ⟨fun _ _ h => h, fun _ _ _ => rfl, fun _ _ => rfl, fun _ _ _ _ _ h => h⟩ (fun _ h => h) hs.rs .undef rfl (dstOk_spec hd))

theorem inFoot_sees (F : List Nat) (σ : St) : Sees σ (inFoot F σ) := fun id o h => by
  unfold inFoot at h
  cases hF : F.elem id with
  | true => rw [hF] at h; exact h
  | false => rw [hF] at h; simp at h

theorem slots_sub (e : Env) : ∀ l : List Nat, Sub (slots l e) e
  | [] => fun t v h => by simp [slots, Env.get] at h
  | s :: r => by
    intro t v h
    simp only [slots] at h
    cases hs : Env.get e s with
    | none => rw [hs] at h; exact slots_sub e r t v h
    | some x =>
      rw [hs] at h; simp only [Env.get] at h
      cases hb : Nat.beq s t with
      | true =>
        rw [hb] at h; simp only [cond_true, Option.some.injEq] at h; subst h
        rw [← Nat.eq_of_beq_eq_true hb]; exact hs
      | false => rw [hb] at h; exact slots_sub e r t v h
theorem slots_congr {e e2 : Env} : ∀ {l : List Nat}, (∀ t ∈ l, Env.get e2 t = Env.get e t) → slots l e2 = slots l e
  | [], _ => rfl
  | s :: r, h => by
    simp only [slots, h s (by simp), slots_congr (l := r) fun t ht => h t (by simp [ht])]

theorem aop_sound {N κ w a nid} (hT : C.T.fits C.P) (hs : SR N κ w e σ a) (hn : makes C o = true → σ[nid]? = some .dead) {v : V} {u : Upd} (h : aop C nid e σ o = some (v, u)) :
    OpOk κ w σ ((execOp a.eval o).run C.P w) v u :=
  core_sound hT hs.rs (inFoot_sees _ _) (fun _ _ hv => ev_sound (hs.sub (slots_sub _ _)) hv) hn h

theorem WO.step (hT : C.T.fits C.P) {nid : Nat} (ho : ops[i]? = some o) (hg : guardOk e ops.toList o = some true) (hd : dstOk C.n o = true) (hn : makes C o = true → σ[nid]? = some .dead)
    {v : V} {u : Upd} (hop : aop C nid e σ o = some (v, u)) (h : WO C ops l (Env.put e o.dst v) (σ.upd u) Q) : WO C ops (i :: l) e σ Q := by
  intro κ w a hs
  simp only [wpOps, ho, guard_sound hs hg, if_true]
  left
  obtain ⟨x, w', κ', hrun, hv, hu, hev, hR⟩ := aop_sound hT hs hn hop
  have hs' : SR C.n κ' w' (Env.put e o.dst v) (σ.upd u) (a.put o.dst x) := hs.put hev.stays hev.live hR hv hu (dstOk_spec hd)
  unfold Oper.wp
  rcases hrun with hrun | ⟨hrun, rfl⟩
  · rw [hrun]; exact WO.later hev h hs'
  · rw [hrun]; exact WO.later hev h hs'

/-- an operation that makes no object -/
theorem WO.val (hT : C.T.fits C.P) (ho : ops[i]? = some o) (hg : guardOk e ops.toList o = some true) (hd : dstOk C.n o = true) (hm : makes C o = false)
    {v : V} {u : Upd} (hop : aop C 0 e σ o = some (v, u)) (h : WO C ops l (Env.put e o.dst v) (σ.upd u) Q) : WO C ops (i :: l) e σ Q :=
  WO.step hT ho hg hd (fun h => by rw [hm] at h; simp at h) hop h

theorem alive_append (σ : St) (id : Nat) : alive (σ ++ [.dead]) id = alive σ id := by
  by_cases h : id < σ.length
  · have : (σ ++ [Ob.dead])[id]? = σ[id]? := List.getElem?_append_left h
    simp only [alive, this]
  · have h1 : σ[id]? = none := List.getElem?_eq_none (by omega)
    have h2 : (σ ++ [Ob.dead])[id]? = some .dead ∨ (σ ++ [Ob.dead])[id]? = none := by
      rw [List.getElem?_append_right (by omega)]
      by_cases h0 : id - σ.length = 0
      · rw [h0]; exact .inl rfl
      · obtain ⟨q, hq⟩ : ∃ q, id - σ.length = q + 1 := ⟨id - σ.length - 1, by omega⟩
        rw [hq]; exact .inr rfl
    rcases h2 with h2 | h2 <;> simp only [alive, h1, h2]
theorem get_append {σ : St} {id : Nat} {o : Ob} (h : (σ ++ [.dead])[id]? = some o) : σ[id]? = some o ∨ o = .dead := by
  rw [List.getElem?_append] at h
  split at h
  · exact .inl h
  · have := List.mem_of_getElem? h
    simp at this; exact .inr this
theorem RS.room {κ w} (h : RS κ w σ) : RS κ w (σ ++ [.dead]) := by
  have e : alive (σ ++ [.dead]) = alive σ := funext (alive_append σ)
  refine ⟨fun id o ho => ?_, fun id id' o o' b h1 h2 hb hb' => ?_, fun id o ho => ?_, h.inside⟩
  · rcases get_append ho with h1 | rfl
    · exact h.obj id o h1
    · trivial
  · rcases get_append h1 with h3 | rfl
    · rcases get_append h2 with h4 | rfl
      · exact h.inj _ _ _ _ b h3 h4 hb hb'
      · simp [blockOf] at hb'
    · simp [blockOf] at hb
  · rw [e]
    rcases get_append ho with h1 | rfl
    · exact h.inner id o h1
    · rfl
theorem own_room {κ : K} {b : Nat} (h : own κ (σ ++ [.dead]) b) : own κ σ b := by
  obtain ⟨id, o, h1, h2⟩ := h
  rcases get_append h1 with h3 | rfl
  · exact ⟨id, o, h3, h2⟩
  · simp [blockOf] at h2
theorem Evo.room {κ w} : Evo κ w σ κ w (σ ++ [.dead]) :=
  { (Evo.refl : Evo κ w σ κ w σ) with live := fun id h => by rw [alive_append]; exact h, owned := fun b h => .inl (own_room h), len := by simp }
theorem SR.room {N κ w a} (h : SR N κ w e σ a) : SR N κ w e (σ ++ [.dead]) a := by
  have e : alive (σ ++ [.dead]) = alive σ := funext (alive_append σ)
  exact ⟨fun t v ht => by rw [e]; exact h.env t v ht, h.rs.room, h.defers, h.size⟩

/-- an operation that makes an object -/
theorem WO.make (hT : C.T.fits C.P) (ho : ops[i]? = some o) (hg : guardOk e ops.toList o = some true) (hd : dstOk C.n o = true)
    {v : V} {u : Upd} (hop : aop C σ.length e (σ ++ [.dead]) o = some (v, u)) (h : WO C ops l (Env.put e o.dst v) (St.upd (σ ++ [.dead]) u) Q) : WO C ops (i :: l) e σ Q := by
  have := WO.step (Q := Q) (l := l) (e := e) (σ := σ ++ [.dead]) hT ho hg hd (fun _ => by simp) hop h
  intro κ w a hs
  exact WO.later Evo.room this hs.room

/-! calls -/
theorem evAll_sound {N κ w a} (hs : SR N κ w e σ a) : ∀ {xs : List Operand} {vs : List V}, evAll e xs = some vs → RVs κ w (alive σ) vs (xs.map a.eval)
  | [], vs, h => by simp only [evAll, Option.some.injEq] at h; subst h; exact .nil
  | x :: r, vs, h => by
    simp only [evAll] at h
    cases hx : ev e x with
    | none => simp [hx] at h
    | some v =>
    cases hr : evAll e r with
    | none => simp [hx, hr] at h
    | some rs =>
    simp only [hx, hr, Option.some.injEq] at h; subst h
    obtain ⟨h1, h2⟩ := ev_sound hs hx
    exact .cons h1 h2 (evAll_sound hs hr)

theorem cells_args {κ w L} {cs : List Cell} {xs : Array Value} (hn : cs.length = xs.size) (h : ∀ (i : Nat) (c : Cell), cs[i]? = some c → RC κ w c (xs.getD i undef)) (hu : underAll L cs = true) :
    RVs κ w L (cs.map V.one) xs.toList := by
  refine ⟨by simpa using hn, fun i v x hv hx => ?_⟩
  simp only [List.getElem?_map, Option.map_eq_some_iff] at hv
  obtain ⟨c, hc, rfl⟩ := hv
  rw [Array.getElem?_toList] at hx
  obtain ⟨hlt, hx'⟩ := Array.getElem?_eq_some_iff.1 hx
  have := h i c hc
  simp [hlt, hx'] at this
  exact ⟨.one _ _ this, under_of_mem hu i c hc⟩

theorem callee_sound {N κ w a} (hs : SR N κ w e σ a) {f : FuncId} {vs : List V} (hc : calleeOf e o = some (f, vs)) (hf : enters C.P f) :
    ∃ xs : List Value, (execOp a.eval o).run C.P w = .ok (.enter f xs.toArray) w ∧ RVs κ w (alive σ) vs xs := by
  unfold calleeOf at hc
  split at hc
  case h_2 => simp at hc
  rename_i fo xs ts hop
  split at hc
  case h_2 => simp at hc
  rename_i g first captured us hfo hxs
  simp only [Option.some.injEq, Prod.mk.injEq] at hc
  obtain ⟨rfl, rfl⟩ := hc
  obtain ⟨hv, hu⟩ := ev_sound hs hfo
  generalize hy : a.eval fo = y at hv
  cases hv with | one _ _ hrc =>
  cases hrc with | fn _ _ _ ys zs hny hnz hys hzs =>
  simp only [V.under, Cell.under, Bool.and_eq_true] at hu
  refine ⟨ys.toList ++ (xs.toList.map a.eval) ++ zs.toList, ?_, ((cells_args hny hys hu.1).append (evAll_sound hs hxs)).append (cells_args hnz hzs hu.2)⟩
  obtain ⟨fn, h1, h2, h3⟩ := hf
  have hinv : (invoke (.fn (.func g) zs) (ys ++ xs.map a.eval)).run C.P w = .ok (.enter g (ys ++ xs.map a.eval ++ zs)) w := by
    show (callFunc g (ys ++ xs.map a.eval ++ zs)).run C.P w = _
    unfold callFunc
    rw [run_bind run_program]
    simp only [h1, h2, Bool.false_eq_true, if_false, h3]; rfl
  have harr : (ys.toList ++ (xs.toList.map a.eval) ++ zs.toList).toArray = ys ++ xs.map a.eval ++ zs := by
    apply Array.ext'; simp
  rw [harr, ← hinv]
  unfold execOp
  simp only [hop]
  refine (run_bind (a := { target := .fn (.func g) zs, args := ys ++ xs.map a.eval }) (w' := w) ?_).trans rfl
  unfold resolve
  simp only [hy]; rfl

theorem RVs.stays {κ κ' : K} {w w' : World} {L L' : Nat → Bool} {vs : List V} {xs : List Value} (h : RVs κ w L vs xs) (hs : Stays κ w κ' w' L') (hu : ∀ v ∈ vs, v.under L' = true) : RVs κ' w' L' vs xs :=
  ⟨h.1, fun i v x hv hx => ⟨((h.2 i v x hv hx).1).stays hs (hu v (List.mem_of_getElem? hv)), hu v (List.mem_of_getElem? hv)⟩⟩
theorem snapVs_sound {κ w L look} (hR : RS κ w σ) (hl : Sees σ look) : ∀ {vs vs' : List V} {xs : List Value}, snapVs look vs = some vs' → RVs κ w L vs xs → RVs κ w L vs' xs
  | [], vs', xs, h, hv => by simp only [snapVs, Option.some.injEq] at h; subst h; exact hv
  | v :: vs, vs', [], h, hv => by have := hv.1; simp at this
  | v :: vs, vs', x :: xs, h, hv => by
    simp only [snapVs] at h
    cases h1 : snapV look v with
    | none => simp [h1] at h
    | some y =>
    cases h2 : snapVs look vs with
    | none => simp [h1, h2] at h
    | some ys =>
    simp only [h1, h2, Option.some.injEq] at h; subst h
    obtain ⟨h3, h4⟩ := hv.2 0 v x rfl rfl
    refine .cons (snapV_sound hR hl h1 h3) (snapV_under h1 h4) (snapVs_sound hR hl h2 ⟨by have := hv.1; simpa using this, fun i u y h5 h6 => hv.2 (i + 1) u y (by simpa using h5) (by simpa using h6)⟩)

/-- the state of a function that has no object yet -/
def K.bare (κ : K) : K := { S := κ.S, at_ := fun _ => none, sl := fun _ _ _ => none }
theorem RS.bare {κ w} (h : RS κ w σ) : RS κ.bare w [] :=
  ⟨fun id o ho => by simp at ho, fun id id' o o' b h1 => by simp at h1, fun id o ho => by simp at ho, h.inside⟩

/-- a call of a function that gets data alone and hands back data alone -/
theorem WO.call (ho : ops[i]? = some o) (hg : guardOk e ops.toList o = some true) (hd : dstOk C.n o = true) {f : FuncId} {vs vs' : List V} (hc : calleeOf e o = some (f, vs))
    (hsn : snapVs (fun id => σ[id]?) vs = some vs') (hni : vs'.all noIds = true) {R : V → St → Prop} (hS : Spec C.P f vs' [] R)
    (hr : ∀ r σ', R r σ' → σ' = [] ∧ noIds r = true) (h : ∀ r, R r [] → WO C ops l (Env.put e o.dst r) σ Q) : WO C ops (i :: l) e σ Q := by
  intro κ w a hs
  simp only [wpOps, ho, guard_sound hs hg, if_true]
  left
  obtain ⟨xs, hrun, hxs⟩ := callee_sound hs hc hS.1
  unfold Oper.wp
  rw [hrun]
  simp only [Oper.upon]
  have hxs' := snapVs_sound hs.rs (fun _ _ h => h) hsn hxs
  have hbare : Stays κ w κ.bare w (fun _ => false) := ⟨fun _ _ h => h, fun _ _ _ => rfl, fun _ h => by simp at h, fun _ _ _ _ h => by simp at h⟩
  have hall : ∀ v ∈ vs', v.under (fun _ => false) = true := fun v hv => List.all_eq_true.1 hni v hv
  have hxs2 := hxs'.stays hbare hall
  have hal : ∀ id, alive ([] : St) id = false := fun id => by simp [alive]
  have hxs3 : RVs κ.bare w (alive []) vs' xs := by rw [show alive ([] : St) = fun _ => false from funext hal]; exact hxs2
  refine (hS.2 κ.bare w xs hs.rs.bare hxs3).mono fun en w' hen => ?_
  obtain ⟨x, r, κ1, σ1, rfl, hRr, hrv, hru, hev, hR1⟩ := hen
  obtain ⟨rfl, hnr⟩ := hr r σ1 hRr
  let κ' : K := { κ with S := κ1.S }
  have hown : ∀ b, ¬ own κ.bare [] b := fun b ⟨id, o, h1, _⟩ => by simp at h1
  obtain ⟨g1, g2⟩ := RS.fresh (κ' := κ') (w' := w') hs.rs hev.S rfl rfl
    (fun b o h => by
      rcases hev.fresh b o h with h1 | h1 | h1
      · exact .inl h1
      · exact absurd h1 (hown b)
      · exact .inr ⟨h1, hR1.inside b o h⟩)
    (fun b hb => hev.frame b hb (hown b)) hev.size hev.os hev.tape hev.output
  have hrv' : RV κ' w' r x := RV.stays (κ := κ1) (κ' := κ') (w := w') (w' := w') (L := fun _ => false) ⟨fun _ _ h => h, fun _ _ _ => rfl, fun _ h => by simp at h, fun _ _ _ _ h => by simp at h⟩ hrv hnr
  exact WO.later g1 (h r hRr) (hs.put g1.stays g1.live g2 hrv' (V.under_mono (fun _ h => by simp at h) hnr) (dstOk_spec hd))
end
end Go.Am
