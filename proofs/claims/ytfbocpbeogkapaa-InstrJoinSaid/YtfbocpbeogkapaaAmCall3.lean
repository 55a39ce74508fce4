/- The abstract machine: calls that hand references on: as steps of a walk. -/
import Derived.Test.YtfbocpbeogkapaaAmCall2
set_option linter.unusedVariables false
set_option linter.unusedSimpArgs false
namespace Go.Am

/-- an argument as it is handed on: an array that the callee does not see goes as data -/
def handC (r : List Nat) (look : Look) : Cell → Option Cell
  | .arr id ep len => bif r.elem id then some (.arr id ep len) else snap look (.arr id ep len)
  | c => snap look c
def handCs (r : List Nat) (look : Look) : List Cell → Option (List Cell)
  | [] => some []
  | c :: cs => match handC r look c, handCs r look cs with
    | some x, some xs => some (x :: xs)
    | _, _ => none
def handV (r : List Nat) (look : Look) : V → Option V
  | .one c => (handC r look c).map .one
  | .agg cs => (handCs r look cs).map .agg
  | _ => none
def handVs (r : List Nat) (look : Look) : List V → Option (List V)
  | [] => some []
  | v :: vs => match handV r look v, handVs r look vs with
    | some x, some xs => some (x :: xs)
    | _, _ => none

section
variable {κ : K} {w : World} {σ : St} {look : Look} {r : List Nat}
theorem handC_sound (hR : RS κ w σ) (hl : Sees σ look) {L : Nat → Bool} {c c' : Cell} {v : Value} (h : handC r look c = some c') (hc : RC κ w c v) (hu : c.under L = true) : RC κ w c' v ∧ c'.under L = true := by
  unfold handC at h
  split at h
  · rename_i id ep len
    cases hb : r.elem id with
    | true => rw [hb] at h; simp only [cond_true, Option.some.injEq] at h; subst h; exact ⟨hc, hu⟩
    | false => rw [hb] at h; simp only [cond_false] at h; exact ⟨snap_sound hR hl h hc, snap_under h hu⟩
  · exact ⟨snap_sound hR hl h hc, snap_under h hu⟩
theorem handCs_sound (hR : RS κ w σ) (hl : Sees σ look) {L : Nat → Bool} : ∀ {cs cs' : List Cell} {vs : List Value}, handCs r look cs = some cs' → RCs κ w cs vs → underAll L cs = true → RCs κ w cs' vs ∧ underAll L cs' = true
  | [], cs', vs, h, hc, _ => by simp only [handCs, Option.some.injEq] at h; subst h; exact ⟨hc, rfl⟩
  | c :: cs, cs', [], h, hc, _ => by have := hc.1; simp at this
  | c :: cs, cs', v :: vs, h, hc, hu => by
    simp only [handCs] at h
    cases h1 : handC r look c with
    | none => simp [h1] at h
    | some x =>
    cases h2 : handCs r look cs with
    | none => simp [h1, h2] at h
    | some xs =>
    simp only [h1, h2, Option.some.injEq] at h; subst h
    simp only [underAll, Bool.and_eq_true] at hu ⊢
    obtain ⟨a1, a2⟩ := handC_sound hR hl h1 hc.head hu.1
    obtain ⟨b1, b2⟩ := handCs_sound hR hl h2 hc.tail hu.2
    exact ⟨.cons a1 b1, a2, b2⟩
theorem handV_sound (hR : RS κ w σ) (hl : Sees σ look) {L : Nat → Bool} {x x' : V} {v : Value} (h : handV r look x = some x') (hx : RV κ w x v) (hu : x.under L = true) : RV κ w x' v ∧ x'.under L = true := by
  cases hx with
  | one c v hc =>
    simp only [handV, Option.map_eq_some_iff] at h
    obtain ⟨c', h1, rfl⟩ := h
    obtain ⟨a1, a2⟩ := handC_sound hR hl h1 hc hu
    exact ⟨.one _ _ a1, a2⟩
  | agg cs vs hc =>
    simp only [handV, Option.map_eq_some_iff] at h
    obtain ⟨c', h1, rfl⟩ := h
    obtain ⟨a1, a2⟩ := handCs_sound hR hl h1 hc hu
    exact ⟨.agg _ _ a1, a2⟩
  | tup xs vs hn hall => simp [handV] at h
  | undef => simp [handV] at h
theorem handVs_sound {L} (hR : RS κ w σ) (hl : Sees σ look) : ∀ {vs vs' : List V} {xs : List Value}, handVs r look vs = some vs' → RVs κ w L vs xs → RVs κ w L vs' xs
  | [], vs', xs, h, hv => by simp only [handVs, Option.some.injEq] at h; subst h; exact hv
  | v :: vs, vs', [], h, hv => by have := hv.1; simp at this
  | v :: vs, vs', x :: xs, h, hv => by
    simp only [handVs] at h
    cases h1 : handV r look v with
    | none => simp [h1] at h
    | some y =>
    cases h2 : handVs r look vs with
    | none => simp [h1, h2] at h
    | some ys =>
    simp only [h1, h2, Option.some.injEq] at h; subst h
    obtain ⟨h3, h4⟩ := hv.2 0 v x rfl rfl
    obtain ⟨h5, h6⟩ := handV_sound hR hl h1 h3 h4
    exact .cons h5 h6 (handVs_sound hR hl h2 ⟨by have := hv.1; simpa using this, fun i u y h5 h6 => hv.2 (i + 1) u y (by simpa using h5) (by simpa using h6)⟩)

/-- what the callee sees is closed -/
def closed (σ0 : St) (vs0 : List V) (r : List Nat) : Bool := (inS σ0 r && σ0.all fun o => o.under (alive σ0)) && (vs0.all fun v => v.under (alive σ0) && v.under (inR r))
def nodup : List Nat → Bool
  | [] => true
  | x :: r => !r.elem x && nodup r
theorem nodup_spec : ∀ {r : List Nat}, nodup r = true → r.Nodup
  | [], _ => List.nodup_nil
  | x :: r, h => by
    simp only [nodup, Bool.and_eq_true, Bool.not_eq_true'] at h
    rw [List.nodup_cons]
    exact ⟨fun hm => by have : r.elem x = true := by simpa using hm
                        rw [this] at h; simp at h, nodup_spec h.2⟩

theorem calls_ref {P : Program} {f : FuncId} {vs0 : List V} {σ0 : St} {R : V → St → Prop} (hS : Spec P f vs0 σ0 R) (hR : RS κ w σ) {xs : List Value} (hx : RVs κ w (alive σ) (rnVs r vs0) xs)
    (hnd : nodup r = true) (hf : fits σ r σ0 r) (hcl : closed σ0 vs0 r = true) :
    Calls P f xs.toArray w fun en w' => ∃ x ret σ0' κ', en = .returned x ∧ R ret σ0' ∧ r.length ≤ σ0'.length ∧ RV κ' w' (rnV (allIds σ r σ0') ret) x ∧ (rnV (allIds σ r σ0') ret).under (alive (merge σ r σ0')) = true ∧ Evo κ w σ κ' w' (merge σ r σ0') ∧ RS κ' w' (merge σ r σ0') := by
  simp only [closed, Bool.and_eq_true, List.all_eq_true] at hcl
  obtain ⟨⟨h1, h2⟩, h3⟩ := hcl
  have hnd' := nodup_spec hnd
  have hin := call_in hR hnd' hf h1 (by simpa using h2)
  have hargs : RVs (via r κ) w (alive σ0) vs0 xs := by
    refine ⟨by rw [← rnVs_length r]; exact hx.1, fun i v x hv hxx => ?_⟩
    have := hx.2 i (rnV r v) x (by rw [rnVs_get, hv]; rfl) hxx
    obtain ⟨h4, h5⟩ := h3 v (List.mem_of_getElem? hv)
    exact ⟨(via_same r κ).inV this.1 h5, h4⟩
  refine (hS.2 (via r κ) w xs hin hargs).mono fun en w' ⟨x, ret, κ0', σ0', g1, g2, g3, g4, g5, g6⟩ => ?_
  obtain ⟨k1, k2, k3, k4, k5⟩ := call_out hR hnd' hf g5 g6
  refine ⟨x, ret, σ0', _, g1, g2, ?_, k3.outV g3 (V.under_mono (fun i hi => inR_lt.2 (by rw [k5]; exact alive_lt hi)) g4), rnV_under k4 g4, k1, k2⟩
  have := (fits_get hf).1
  have := g5.len; omega
end

section
variable {C : Cx} {ops : Array Oper} {l : List Nat} {e : Env} {σ : St} {Q : Env → St → Prop} {i : Nat} {o : Oper}
/-- a call of a function that gets references, too -/
theorem WO.callr (r : List Nat) (σ0 : St) (vs0 : List V) (ho : ops[i]? = some o) (hg : guardOk e ops.toList o = some true) (hd : dstOk C.n o = true) {f : FuncId} {vs : List V} (hc : calleeOf e o = some (f, vs))
    (hh : handVs r (fun id => σ[id]?) vs = some (rnVs r vs0)) (hnd : nodup r = true) (hf : fits σ r σ0 r) (hcl : closed σ0 vs0 r = true) {R : V → St → Prop} (hS : Spec C.P f vs0 σ0 R)
    (h : ∀ ret σ0', R ret σ0' → r.length ≤ σ0'.length → WO C ops l (Env.put e o.dst (rnV (allIds σ r σ0') ret)) (merge σ r σ0') Q) : WO C ops (i :: l) e σ Q := by
  intro κ w a hs
  simp only [wpOps, ho, guard_sound hs hg, if_true]
  left
  obtain ⟨xs, hrun, hxs⟩ := callee_sound hs hc hS.1
  unfold Oper.wp
  rw [hrun]
  simp only [Oper.upon]
  refine (calls_ref hS hs.rs (handVs_sound hs.rs (fun _ _ h => h) hh hxs) hnd hf hcl).mono fun en w' hen => ?_
  obtain ⟨x, ret, σ0', κ', rfl, g1, g2, g3, g4, g5, g6⟩ := hen
  exact WO.later g5 (h ret σ0' g1 g2) (hs.put g5.stays g5.live g6 g3 g4 (dstOk_spec hd))
end

section
variable {C : Cx} {all l : List Oper} {k : Nat} {e : Env} {σ : St} {o : Oper} {Q : Env → St → Prop}
/-- a call that hands references on; what it gives is known but for R -/
theorem WL.cr (r : List Nat) (σ0 : St) (vs0 : List V) {f : FuncId} {vs : List V} {R : V → St → Prop} (hS : Spec C.P f vs0 σ0 R) (hg : guardOk e all o = some true) (hd : dstOk C.n o = true) (hc : calleeOf e o = some (f, vs))
    (hh : handVs r (fun id => σ[id]?) vs = some (rnVs r vs0)) (hnd : nodup r = true) (hf : fits σ r σ0 r) (hcl : closed σ0 vs0 r = true)
    (h : ∀ ret σ0', R ret σ0' → WL C all l (k + 1) (Env.put e o.dst (rnV (allIds σ r σ0') ret)) (merge σ r σ0') Q) : WL C all (o :: l) k e σ Q :=
  fun hall => WO.callr r σ0 vs0 (head_of hall) (by simpa using hg) hd hc hh hnd hf hcl hS fun ret σ0' h1 _ => WL.tail hall (h ret σ0' h1)
/-- .. what it gives is known -/
theorem WL.cr' (r : List Nat) (σ0 : St) (vs0 : List V) {f : FuncId} {vs : List V} {ret : V} {σ1 : St} (hS : Spec C.P f vs0 σ0 (fun x s => x = ret ∧ s = σ1)) (hg : guardOk e all o = some true) (hd : dstOk C.n o = true) (hc : calleeOf e o = some (f, vs))
    (hh : handVs r (fun id => σ[id]?) vs = some (rnVs r vs0)) (hnd : nodup r = true) (hf : fits σ r σ0 r) (hcl : closed σ0 vs0 r = true)
    {v' : V} {σ' : St} {e' : Env} (hv : fV (rnV (allIds σ r σ1) ret) = some v') (hσ : fS (merge σ r σ1) = some σ') (he : nput e o.dst v' = some e') (h : WL C all l (k + 1) e' σ' Q) : WL C all (o :: l) k e σ Q := by
  rw [fV_eq] at hv; injection hv with hv; subst hv
  rw [fS_eq] at hσ; injection hσ with hσ; subst hσ
  rw [nput_eq] at he; injection he with he; subst he
  refine WL.cr r σ0 vs0 hS hg hd hc hh hnd hf hcl ?_
  rintro _ _ ⟨rfl, rfl⟩; exact h

def zipU : List Nat → St → Upd
  | i :: r, o :: s => (i, o) :: zipU r s
  | _, _ => []
theorem setAll_upd (R : List Nat) : ∀ (σ : St) (r : List Nat) (s : St), r.length = s.length → setAll R σ r s = σ.upd (zipU r (rnS R s))
  | σ, [], [], _ => by simp [setAll, zipU, rnS, St.upd]
  | σ, [], _ :: _, h => by simp at h
  | σ, _ :: _, [], h => by simp at h
  | σ, x :: r, o :: s, h => by rw [setAll, setAll_upd R _ r s (by simpa using h)]; rfl
theorem zipU_ids : ∀ (r : List Nat) (s : St), r.length = s.length → (zipU r s).map (·.1) = r
  | [], [], _ => rfl
  | [], _ :: _, h => by simp at h
  | _ :: _, [], h => by simp at h
  | x :: r, o :: s, h => by simp [zipU, zipU_ids r s (by simpa using h)]

theorem fits_congr {σ σ2 : St} {R : List Nat} : ∀ {r : List Nat} {σ0 : St}, (∀ id ∈ r, σ2[id]? = σ[id]?) → Am.fits σ r σ0 R → Am.fits σ2 r σ0 R
  | [], [], _, _ => trivial
  | _ :: _, [], _, h => h.elim
  | [], _ :: _, _, h => h.elim
  | x :: r, o :: s, hc, h => ⟨by rw [hc x (by simp)]; exact h.1, fits_congr (fun id hid => hc id (by simp [hid])) h.2⟩

theorem Valid.callr (r : List Nat) (σ0 : St) (vs0 : List V) (ho : all.toArray[k]? = some o) (hg : guardOk e all o = some true) (hd : dstOk C.n o = true) {f : FuncId} {vs : List V} (hc : calleeOf (opEnv e o) o = some (f, vs))
    (hh : handVs r (inFoot (r ++ foot (opEnv e o) o) σ) vs = some (rnVs r vs0)) (hnd : nodup r = true) (hf : fits σ r σ0 r) (hcl : closed σ0 vs0 r = true) {ret : V} {σ1 : St} (hS : Spec C.P f vs0 σ0 (fun x s => x = ret ∧ s = σ1)) (hlen1 : σ1.length = r.length) :
    Valid C all.toArray k ⟨o.dst, rnV r ret, zipU r (rnS r σ1), reads all o, r ++ foot (opEnv e o) o⟩ e σ := by
  intro e2 σ2 hTm hF hlen Q K2 κ w a hs hK
  have hg2 : guardOk e2 all o = some true := by rw [guardOk_congr fun t ht => hTm t (by simp [reads, ht])]; exact hg
  have he : opEnv e2 o = opEnv e o := slots_congr fun t ht => hTm t (by simp [reads, ht])
  have hc2 : calleeOf e2 o = some (f, vs) := calleeOf_sub (slots_sub e2 _) (by rw [show slots (temps o.op.operands.toList) e2 = opEnv e2 o from rfl, he]; exact hc)
  rw [← inFoot_congr (σ2 := σ2) fun id hid => hF id (.inl hid)] at hh
  have hf2 : fits σ2 r σ0 r := fits_congr (fun id hid => hF id (.inl (by simp [hid]))) hf
  unfold wpOp
  simp only [ho, guard_sound (ops := all.toArray) hs (by simpa using hg2), if_true]
  left
  obtain ⟨xs, hrun, hxs⟩ := callee_sound hs hc2 hS.1
  unfold Oper.wp
  rw [hrun]
  simp only [Oper.upon]
  refine (calls_ref hS hs.rs (handVs_sound hs.rs (inFoot_sees _ _) hh hxs) hnd hf2 hcl).mono fun en w' hen => ?_
  obtain ⟨x, ret', σ0', κ', rfl, ⟨rfl, rfl⟩, g2, g3, g4, g5, g6⟩ := hen
  have hall : allIds σ2 r σ0' = r := by rw [allIds, List.drop_eq_nil_of_le (by omega)]; simp [newIds]
  have hm : merge σ2 r σ0' = σ2.upd (zipU r (rnS r σ0')) := by rw [merge, hall]; exact setAll_upd r σ2 r σ0' hlen1.symm
  rw [hall] at g3 g4
  rw [hm] at g4 g5 g6
  exact hK κ' w' _ g5 (hs.put g5.stays g5.live g6 g3 g4 (dstOk_spec hd))

theorem DL.cr' {acc : List Rec} (r : List Nat) (σ0 : St) (vs0 : List V) {f : FuncId} {vs : List V} {ret : V} {σ1 : St} (hS : Spec C.P f vs0 σ0 (fun x s => x = ret ∧ s = σ1)) (hg : guardOk e all o = some true) (hd : dstOk C.n o = true) (hc : calleeOf (opEnv e o) o = some (f, vs))
    (hh : handVs r (inFoot (r ++ foot (opEnv e o) o) σ) vs = some (rnVs r vs0)) (hnd : nodup r = true) (hf : fits σ r σ0 r) (hcl : closed σ0 vs0 r = true) (hlen1 : σ1.length = r.length)
    {v' : V} {σ' : St} {e' : Env} (hv : fV (rnV r ret) = some v') (hσ : fS (σ.upd (zipU r (rnS r σ1))) = some σ') {T F : List Nat} (hT' : fL (reads all o) = some T) (hF' : fL (r ++ foot (opEnv e o) o) = some F)
    (he : nput e o.dst v' = some e') (h : DL C all l (k + 1) e' σ' (⟨o.dst, .undef, r.map fun i => (i, .dead), T, F⟩ :: acc) Q) : DL C all (o :: l) k e σ acc Q := by
  rw [fV_eq] at hv; injection hv with hv; subst hv
  rw [fS_eq] at hσ; injection hσ with hσ; subst hσ
  rw [nput_eq] at he; injection he with he; subst he
  rw [fL_eq] at hT' hF'; injection hT' with hT'; injection hF' with hF'; subst hT'; subst hF'
  intro hall
  refine (DL.cons (r := ⟨o.dst, rnV r ret, zipU r (rnS r σ1), reads all o, r ++ foot (opEnv e o) o⟩) ?_ (Valid.callr r σ0 vs0 (head_of hall) hg hd hc hh hnd hf hcl hS hlen1) h) hall
  have := zipU_ids r (rnS r σ1) (by rw [rnS_length]; omega)
  simp only [Rec.key, Rec.mk.injEq, true_and, and_true]
  generalize zipU r (rnS r σ1) = u at this
  subst this
  simp [Function.comp_def]
end
end Go.Am
