/- The abstract machine: soundness of interfaces, maps, conversions, lengths, scalars. -/
import Derived.Test.YtfbocpbeogkapaaAmOps4
import Derived.MapKept
set_option linter.unusedVariables false
set_option linter.unusedSimpArgs false
namespace Go.Am

section
variable {P : Program} {T : Tab} {κ : K} {w : World} {σ : St} {look : Look}

theorem nilChecked_sound {v x : V} {y : Value} {o : Oper} {a : Operand} {η : Operand → Value} (ho : o.op = .nilCheck a) (hy : η a = y) (h : nilChecked x = some v) (hx : RV κ w x y) :
    (execOp η o).run P w = .ok (.value y) w ∧ v = x := by
  unfold execOp
  simp only [ho, hy]
  unfold nilChecked at h
  split at h <;> first
    | (injection h with h; subst h
       cases hx with | one _ _ hc => cases hc <;> exact ⟨rfl, rfl⟩)
    | simp at h

/-! interfaces -/
theorem iface_sound (hT : T.fits P) (hR : RS κ w σ) (hl : Sees σ look) {t : TypeId} {x v : V} {y : Value} (hi : isIface T t = some false) (h : ifaceOf look t x = some v) (hx : RV κ w x y) :
    (Instr.makeInterface t y).run P w = .ok (.iface t y) w ∧ RV κ w v (.iface t y) ∧ ∀ L, v.under L = true := by
  have hrun : (Instr.makeInterface t y).run P w = .ok (.iface t y) w := by
    unfold isIface at hi
    cases hu : T.und t with
    | none => simp [hu] at hi
    | some d =>
      unfold Instr.makeInterface
      rw [run_bind (run_underlying hT hu)]
      rw [hu] at hi
      cases d <;> first | rfl | (simp at hi)
  refine ⟨hrun, ?_⟩
  unfold ifaceOf at h
  split at h
  · rename_i c
    cases hd : dataOf look c with
    | none => simp [hd] at h
    | some x =>
    simp only [hd, Option.some.injEq] at h; subst h
    cases hx with | one _ _ hc => exact ⟨.one _ _ (.d _ _ (.ifc1 t x _ (data_sound hR hl hd hc))), fun _ => rfl⟩
  · rename_i cs
    cases hd : dataAll look cs with
    | none => simp [hd] at h
    | some xs =>
    simp only [hd, Option.some.injEq] at h; subst h
    cases hx with | agg _ vs hc =>
    obtain ⟨h1, h2⟩ := dataAll_sound hR hl hd hc
    refine ⟨.one _ _ (.d _ _ (.ifcA t xs vs (by simpa using h1) fun i d hi => ?_)), fun _ => rfl⟩
    have hlt : i < vs.size := by have := (List.getElem?_eq_some_iff.1 hi).1; simp at h1; omega
    have := h2 i d vs[i] hi (by rw [Array.getElem?_toList]; exact Array.getElem?_eq_getElem hlt)
    simpa [hlt] using this
  · simp at h

theorem ofValueF_sound {z : Value} {f : FV} (h : ofValueF z = some f) : RF κ w f z ∧ ∀ L, f.under L = true := by
  cases z with
  | agg cs =>
    simp only [ofValueF] at h
    cases hp : allPlain cs.toList with
    | false => rw [hp] at h; simp at h
    | true =>
      rw [hp] at h; simp only [cond_true, Option.some.injEq] at h; subst h
      exact ⟨.agg _ _ (RCs.ofCells hp), fun L => underAll_ofCells _⟩
  | tuple vs => simp [ofValueF] at h
  | _ => simp only [ofValueF, Option.some.injEq] at h; subst h; exact ⟨.one _ _ (.d _ _ (.sc _ rfl)), fun _ => rfl⟩
theorem ofValue_sound {z : Value} {f : V} (h : ofValue z = some f) : RV κ w f z ∧ ∀ L, f.under L = true := by
  cases z with
  | agg cs =>
    simp only [ofValue] at h
    cases hp : allPlain cs.toList with
    | false => rw [hp] at h; simp at h
    | true =>
      rw [hp] at h; simp only [cond_true, Option.some.injEq] at h; subst h
      exact ⟨.agg _ _ (RCs.ofCells hp), fun L => underAll_ofCells _⟩
  | tuple vs => simp [ofValue] at h
  | _ => simp only [ofValue, Option.some.injEq] at h; subst h; exact ⟨.one _ _ (.d _ _ (.sc _ rfl)), fun _ => rfl⟩

theorem RF.toV {x : FV} {y : Value} (h : RF κ w x y) : RV κ w x.v y := by
  cases h with
  | one c y h => exact RV.one c y h
  | agg cs vs h => exact RV.agg cs vs h
theorem FV.v_under {L : Nat → Bool} {x : FV} : x.v.under L = x.under L := by cases x <;> rfl
theorem fv_sound {v : V} {f : FV} {y : Value} (h : v.fv = some f) (hv : RV κ w v y) : RF κ w f y := by
  cases v <;> simp only [V.fv, Option.some.injEq, reduceCtorEq] at h <;> subst h
  · cases hv with | one _ _ h => exact .one _ _ h
  · cases hv with | agg _ _ h => exact .agg _ _ h
theorem fv_under {L : Nat → Bool} {v : V} {f : FV} (h : v.fv = some f) (hu : v.under L = true) : f.under L = true := by
  cases v <;> simp only [V.fv, Option.some.injEq, reduceCtorEq] at h <;> subst h <;> exact hu

theorem RV.pair {f : FV} {y : Value} (h : RF κ w f y) (b : Bool) : RV κ w (.tup [f, .one (.d (.sc (.bool b)))]) (.tuple #[y, .bool b]) := by
  refine .tup _ _ rfl fun i x v hx hv => ?_
  match i with
  | 0 => simp at hx hv; subst hx; subst hv; exact h
  | 1 => simp at hx hv; subst hx; subst hv; exact .one _ _ (.d _ _ (.sc _ rfl))
  | i + 2 => simp at hx
theorem under_pair {L : Nat → Bool} {f : FV} (h : f.under L = true) (b : Bool) : (V.tup [f, .one (.d (.sc (.bool b)))]).under L = true := by
  simp only [V.under, List.all_cons, List.all_nil, Bool.and_true, h, Bool.true_and]; rfl

theorem mkd_sound {g : Bool} {xs : List D} {v : V} {y : Value} (h : mk g (xs.map .d) = some v) (hg : ∃ t, RD κ.S w (.ifc t g xs) (.iface t y)) : RV κ w v y := by
  obtain ⟨t, hd⟩ := hg
  cases hd with
  | ifc1 _ d _ h' => simp only [List.map_cons, List.map_nil, mk, Option.some.injEq] at h; subst h; exact .one _ _ (.d _ _ h')
  | ifcA _ _ vs hn h' =>
    simp only [mk, Option.some.injEq] at h; subst h
    refine .agg _ _ ⟨by simpa using hn, fun i c v hc hv => ?_⟩
    simp only [List.getElem?_map, Option.map_eq_some_iff] at hc
    obtain ⟨x, hx, rfl⟩ := hc
    have := h' i x hx
    rw [Array.getElem?_toList] at hv
    obtain ⟨hlt, hv'⟩ := Array.getElem?_eq_some_iff.1 hv
    simp [hlt, hv'] at this
    exact .d _ _ this

theorem assert_sound (hT : T.fits P) {x v : V} {y : Value} {xt t : TypeId} {ok : Bool} (h : assertOf T x t ok = some v) (hx : RV κ w x y) :
    ∃ z, (Instr.typeAssert y xt t ok).run P w = .ok z w ∧ RV κ w v z ∧ ∀ L, v.under L = true := by
  unfold assertOf at h
  split at h
  case h_2 => simp at h
  rename_i hi
  unfold isIface at hi
  cases hu : T.und t with
  | none => simp [hu] at hi
  | some d =>
  have hnot : ∀ ms, d ≠ .interface ms := by intro ms e; subst e; simp [hu] at hi
  split at h
  · rename_i t' g xs
    cases hx with | one _ _ hc => cases hc with | d _ _ hd =>
    have hy : ∃ y', y = .iface t' y' := by cases hd <;> exact ⟨_, rfl⟩
    obtain ⟨y', rfl⟩ := hy
    cases ht : Nat.beq t' t with
    | true =>
      rw [ht] at h; simp only [cond_true] at h
      have ht' : t' = t := by simpa using ht
      subst ht'
      cases hm : mk g (xs.map .d) with
      | none => simp [hm] at h
      | some mv =>
      simp only [hm] at h
      cases hf : mv.fv with
      | none => simp [hf] at h
      | some f =>
      simp only [hf, Option.some.injEq] at h; subst h
      have hmv := mkd_sound hm ⟨t', hd⟩
      have hmu : ∀ L, mv.under L = true := fun L => mk_under hm (underAll_d _)
      have hrun : (Instr.typeAssert (.iface t' y') xt t' ok).run P w = .ok (if ok then .tuple #[y', .bool true] else y') w := by
        unfold Instr.typeAssert
        rw [run_bind (run_underlying hT hu)]
        cases d <;> first | (simp only [if_true]; cases ok <;> rfl) | exact absurd rfl (hnot _)
      refine ⟨_, hrun, ?_, fun L => ?_⟩
      · cases ok with
        | true => exact RV.pair (fv_sound hf hmv) true
        | false => exact hmv
      · cases ok with
        | true => exact under_pair (fv_under hf (hmu L)) true
        | false => exact hmu L
    | false =>
      rw [ht] at h; simp only [cond_false] at h
      cases ok with
      | false => simp at h
      | true =>
      simp only [cond_true] at h
      cases hz : T.zero t with
      | none => simp [hz] at h
      | some z =>
      simp only [hz] at h
      cases hf : ofValueF z with
      | none => simp [hf] at h
      | some f =>
      simp only [hf, Option.some.injEq] at h; subst h
      have hne : t' ≠ t := by intro e; subst e; simp at ht
      obtain ⟨h1, h2⟩ := ofValueF_sound (κ := κ) (w := w) hf
      refine ⟨_, ?_, RV.pair h1 false, fun L => under_pair (h2 L) false⟩
      unfold Instr.typeAssert
      rw [run_bind (run_underlying hT hu)]
      cases d <;> first
        | (simp only [hne, if_false, if_true]; rw [run_bind (run_zeroValue hT hz)]; rfl)
        | exact absurd rfl (hnot _)
  · cases ok with
    | false => simp at h
    | true =>
    simp only [cond_true] at h
    cases hz : T.zero t with
    | none => simp [hz] at h
    | some z =>
    simp only [hz] at h
    cases hf : ofValueF z with
    | none => simp [hf] at h
    | some f =>
    simp only [hf, Option.some.injEq] at h; subst h
    obtain ⟨h1, h2⟩ := ofValueF_sound (κ := κ) (w := w) hf
    cases hx with | one _ _ hc => cases hc with | d _ _ hd => cases hd with | sc _ _ =>
    refine ⟨_, ?_, RV.pair h1 false, fun L => under_pair (h2 L) false⟩
    unfold Instr.typeAssert
    rw [run_bind (run_underlying hT hu)]
    cases d <;> first
      | (simp only [if_true]; rw [run_bind (run_zeroValue hT hz)]; rfl)
      | exact absurd rfl (hnot _)
  · simp at h
end
end Go.Am
