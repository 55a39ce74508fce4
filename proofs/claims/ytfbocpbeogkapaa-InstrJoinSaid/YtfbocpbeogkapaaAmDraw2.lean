/- The abstract machine: a region that draws its order, operation by operation. -/
import Derived.Test.YtfbocpbeogkapaaAmDraw
set_option linter.unusedVariables false
set_option linter.unusedSimpArgs false
namespace Go.Am

def guardTmps (all : List Oper) (o : Oper) : List Nat :=
  match o.guard with
  | none => []
  | some (j, _) => match all[j]? with
    | some p => match p.dst with
      | some t => [t]
      | none => []
    | none => []
def reads (all : List Oper) (o : Oper) : List Nat := guardTmps all o ++ temps o.op.operands.toList

theorem guardOk_congr {e e2 : Env} {all : List Oper} {o : Oper} (h : ∀ t ∈ guardTmps all o, Env.get e2 t = Env.get e t) : guardOk e2 all o = guardOk e all o := by
  unfold guardOk
  unfold guardTmps at h
  cases hg : o.guard with
  | none => rfl
  | some p =>
    obtain ⟨j, want⟩ := p
    simp only [hg] at h ⊢
    cases hp : all[j]? with
    | none => rfl
    | some q =>
    simp only [hp] at h ⊢
    cases hd : q.dst with
    | none => rfl
    | some t =>
    simp only [hd] at h ⊢
    rw [h t (by simp)]

theorem inFoot_congr {F : List Nat} {σ σ2 : St} (h : ∀ id ∈ F, σ2[id]? = σ[id]?) : inFoot F σ2 = inFoot F σ := by
  funext id
  unfold inFoot
  cases hF : F.elem id with
  | true => simp only [cond_true]; exact h id (by simpa using hF)
  | false => rfl

section
variable {C : Cx} {all : List Oper} {k : Nat} {e : Env} {σ : St} {o : Oper}

theorem Valid.skip (ho : all.toArray[k]? = some o) (hg : guardOk e all o = some false) (hd : dstOk C.n o = true) : Valid C all.toArray k ⟨o.dst, .undef, [], guardTmps all o, []⟩ e σ := by
  intro e2 σ2 hT hF hlen Q K2 κ w a hs hK
  have hg2 : guardOk e2 all o = some false := by rw [guardOk_congr hT]; exact hg
  unfold wpOp
  simp only [ho, guard_sound (ops := all.toArray) hs (by simpa using hg2), Bool.false_eq_true, if_false]
  exact hK κ w _ .refl (hs.put ⟨fun _ _ h => h, fun _ _ _ => rfl, fun _ _ => rfl, fun _ _ _ _ _ h => h⟩ (fun _ h => h) hs.rs .undef rfl (dstOk_spec hd))

theorem Valid.op (hT : C.T.fits C.P) {nid : Nat} (ho : all.toArray[k]? = some o) (hg : guardOk e all o = some true) (hd : dstOk C.n o = true)
    {v : V} {u : Upd} (hn : makes C o = true → σ[nid]? = some .dead ∧ nid ∈ u.map (·.1)) (hop : aop C nid e σ o = some (v, u)) :
    Valid C all.toArray k ⟨o.dst, v, u, reads all o, foot (opEnv e o) o⟩ e σ := by
  intro e2 σ2 hTm hF hlen Q K2 κ w a hs hK
  have hg2 : guardOk e2 all o = some true := by rw [guardOk_congr fun t ht => hTm t (by simp [reads, ht])]; exact hg
  have he : opEnv e2 o = opEnv e o := slots_congr fun t ht => hTm t (by simp [reads, ht])
  have hop2 : aop C nid e2 σ2 o = some (v, u) := by
    unfold aop at hop ⊢
    rw [he, inFoot_congr fun id hid => hF id (.inl hid)]; exact hop
  unfold wpOp
  simp only [ho, guard_sound (ops := all.toArray) hs (by simpa using hg2), if_true]
  left
  obtain ⟨x, w', κ', hrun, hv, hu, hev, hR⟩ := aop_sound hT hs (fun hm => by rw [hF nid (.inr (hn hm).2)]; exact (hn hm).1) hop2
  have hs' : SR C.n κ' w' (Env.put e2 o.dst v) (σ2.upd u) (a.put o.dst x) := hs.put hev.stays hev.live hR hv hu (dstOk_spec hd)
  unfold Oper.wp
  rcases hrun with hrun | ⟨hrun, rfl⟩
  · rw [hrun]; exact hK κ' w' _ hev hs'
  · rw [hrun]; exact hK κ' w' _ hev hs'

/-- what a call reads, and who is called -/
theorem calleeOf_sub {e e2 : Env} (h : Sub e e2) {r : FuncId × List V} (hc : calleeOf e o = some r) : calleeOf e2 o = some r := by
  have hev : ∀ x v, ev e x = some v → ev e2 x = some v := by
    intro x v hx
    cases x <;> first | exact h _ _ hx | exact hx
  have hall : ∀ (xs : List Operand) (vs : List V), evAll e xs = some vs → evAll e2 xs = some vs := by
    intro xs
    induction xs with
    | nil => intro vs h; exact h
    | cons x xs ih =>
      intro vs h1
      simp only [evAll] at h1 ⊢
      cases hx : ev e x with
      | none => simp [hx] at h1
      | some v =>
      cases hr : evAll e xs with
      | none => simp [hx, hr] at h1
      | some us =>
      simp only [hx, hr] at h1
      rw [hev x v hx, ih us hr]; exact h1
  unfold calleeOf at hc ⊢
  split at hc
  case h_2 => simp at hc
  split at hc
  case h_2 => simp at hc
  rename_i h1 h2
  rw [hev _ _ h1, hall _ _ h2]; exact hc

theorem Valid.call (ho : all.toArray[k]? = some o) (hg : guardOk e all o = some true) (hd : dstOk C.n o = true) {f : FuncId} {vs vs' : List V} (hc : calleeOf (opEnv e o) o = some (f, vs))
    (hsn : snapVs (inFoot (foot (opEnv e o) o) σ) vs = some vs') (hni : vs'.all noIds = true) {r : V} (hS : Comp C.P f vs' r) (hr : noIds r = true) :
    Valid C all.toArray k ⟨o.dst, r, [], reads all o, foot (opEnv e o) o⟩ e σ := by
  intro e2 σ2 hTm hF hlen Q K2 κ w a hs hK
  have hg2 : guardOk e2 all o = some true := by rw [guardOk_congr fun t ht => hTm t (by simp [reads, ht])]; exact hg
  have he : opEnv e2 o = opEnv e o := slots_congr fun t ht => hTm t (by simp [reads, ht])
  have hc2 : calleeOf e2 o = some (f, vs) := calleeOf_sub (slots_sub e2 _) (by rw [show slots (temps o.op.operands.toList) e2 = opEnv e2 o from rfl, he]; exact hc)
  rw [← inFoot_congr (σ2 := σ2) fun id hid => hF id (.inl hid)] at hsn
  unfold wpOp
  simp only [ho, guard_sound (ops := all.toArray) hs (by simpa using hg2), if_true]
  left
  obtain ⟨xs, hrun, hxs⟩ := callee_sound hs hc2 hS.1
  unfold Oper.wp
  rw [hrun]
  simp only [Oper.upon]
  have hxs' := snapVs_sound hs.rs (inFoot_sees _ _) hsn hxs
  have hbare : Stays κ w κ.bare w (fun _ => false) := ⟨fun _ _ h => h, fun _ _ _ => rfl, fun _ h => by simp at h, fun _ _ _ _ h => by simp at h⟩
  have hall : ∀ v ∈ vs', v.under (fun _ => false) = true := fun v hv => List.all_eq_true.1 hni v hv
  have hxs2 := hxs'.stays hbare hall
  have hal : ∀ id, alive ([] : St) id = false := fun id => by simp [alive]
  have hxs3 : RVs κ.bare w (alive []) vs' xs := by rw [show alive ([] : St) = fun _ => false from funext hal]; exact hxs2
  refine (hS.2 κ.bare w xs hs.rs.bare hxs3).mono fun en w' hen => ?_
  obtain ⟨x, r', κ1, σ1, rfl, ⟨rfl, rfl⟩, hrv, hru, hev, hR1⟩ := hen
  let κ' : K := { κ with S := κ1.S }
  have hown : ∀ b, ¬ own κ.bare [] b := fun b ⟨id, o, h1, _⟩ => by simp at h1
  obtain ⟨g1, g2⟩ := RS.fresh (κ' := κ') (w' := w') hs.rs hev.S rfl rfl
    (fun b o h => by
      rcases hev.fresh b o h with h1 | h1 | h1
      · exact .inl h1
      · exact absurd h1 (hown b)
      · exact .inr ⟨h1, hR1.inside b o h⟩)
    (fun b hb => hev.frame b hb (hown b)) hev.size hev.os hev.tape hev.output
  have hrv' : RV κ' w' r' x := RV.stays (κ := κ1) (κ' := κ') (w := w') (w' := w') (L := fun _ => false) ⟨fun _ _ h => h, fun _ _ _ => rfl, fun _ h => by simp at h, fun _ _ _ _ h => by simp at h⟩ hrv hr
  exact hK κ' w' _ g1 (hs.put g1.stays g1.live g2 hrv' (V.under_mono (fun _ h => by simp at h) hr) (dstOk_spec hd))
end

/-! traces -/
inductive Tr (C : Cx) (all : List Oper) : Nat → Env → St → List Rec → Env → St → Prop
  | nil (k e σ) : Tr C all k e σ [] e σ
  | cons {k e σ rs e' σ'} (r : Rec) (h : Valid C all.toArray k r e σ) (t : Tr C all (k + 1) (r.env e) (r.st σ) rs e' σ') : Tr C all k e σ (r :: rs) e' σ'

theorem envD_none {L : Nat → Bool} : ∀ {rs : List Rec} {k : Nat} {e : Env}, (∀ j, k ≤ j → L j = false) → envD L rs k e = e
  | [], _, _, _ => rfl
  | r :: rs, k, e, h => by
    simp only [envD, h k (Nat.le_refl k), cond_false]
    exact envD_none fun j hj => h j (by omega)
theorem stD_none {L : Nat → Bool} : ∀ {rs : List Rec} {k : Nat} {σ : St}, (∀ j, k ≤ j → L j = false) → stD L rs k σ = σ
  | [], _, _, _ => rfl
  | r :: rs, k, σ, h => by
    simp only [stD, h k (Nat.le_refl k), cond_false]
    exact stD_none fun j hj => h j (by omega)

theorem Tr.spec {C : Cx} {all : List Oper} {k : Nat} {e : Env} {σ : St} {rs : List Rec} {e' : Env} {σ' : St} (h : Tr C all k e σ rs e' σ') :
    e' = envD (fun _ => true) rs k e ∧ σ' = stD (fun _ => true) rs k σ ∧
    ∀ i r, rs[i]? = some r → Valid C all.toArray (k + i) r (envD (fun j => decide (j < k + i)) rs k e) (stD (fun j => decide (j < k + i)) rs k σ) := by
  induction h with
  | nil => exact ⟨rfl, rfl, fun i r h => by simp at h⟩
  | @cons k e σ rs e' σ' r h t ih =>
    refine ⟨ih.1, ih.2.1, fun i r' hi => ?_⟩
    cases i with
    | zero =>
      simp at hi; subst hi
      rw [envD_none (fun j hj => by simp; omega), stD_none (fun j hj => by simp; omega)]
      exact h
    | succ i =>
      have := ih.2.2 i r' (by simpa using hi)
      simp only [envD, stD]
      rw [show decide (k < k + (i + 1)) = true from by simp]
      rw [show k + (i + 1) = k + 1 + i from by omega]
      exact this

/-- what has been done so far, as far as orders go -/
def Rec.key (r : Rec) : Rec := ⟨r.dst, .undef, r.u.map fun p => (p.1, .dead), r.T, r.F⟩
theorem key_ws (r : Rec) : r.key.ws = r.ws := by simp [Rec.key, Rec.ws, Function.comp_def]
theorem free_key (p r : Rec) : free p.key r.key = free p r := by
  unfold free; rw [key_ws, key_ws]; rfl
theorem checkOne_key {o : Oper} {r : Rec} : ∀ (ps : List Rec) (i : Nat), checkOne o r.key (ps.map Rec.key) i = checkOne o r ps i
  | [], _ => rfl
  | p :: ps, i => by simp only [List.map_cons, checkOne, free_key, checkOne_key ps]
theorem check_key : ∀ (os : List Oper) (rs ps : List Rec), check os (rs.map Rec.key) (ps.map Rec.key) = check os rs ps
  | [], [], _ => rfl
  | [], _ :: _, _ => rfl
  | _ :: _, [], _ => rfl
  | o :: os, r :: rs, ps => by
    simp only [List.map_cons, check, checkOne_key]
    rw [show ps.map Rec.key ++ [r.key] = (ps ++ [r]).map Rec.key from by simp, check_key os rs]

def DL (C : Cx) (all l : List Oper) (k : Nat) (e : Env) (σ : St) (acc : List Rec) (Q : Env → St → Prop) : Prop :=
  (∀ j o, l[j]? = some o → all[k + j]? = some o) → ∃ rs e' σ', Tr C all k e σ rs e' σ' ∧ check all (acc.reverse ++ rs.map Rec.key) [] = true ∧ ∃ e2, Sub e2 e' ∧ Q e2 σ'

def countMakes (C : Cx) : List Oper → Nat
  | [] => 0
  | o :: r => bif makes C o then countMakes C r + 1 else countMakes C r
def deads : Nat → List Ob
  | 0 => []
  | n + 1 => .dead :: deads n
def fdead : St → Nat → Option Nat
  | [], _ => none
  | .dead :: _, k => some k
  | _ :: r, k => fdead r (k + 1)
theorem fdead_spec : ∀ {σ : St} {k n : Nat}, fdead σ k = some n → k ≤ n ∧ σ[n - k]? = some .dead
  | [], _, _, h => by simp [fdead] at h
  | o :: r, k, n, h => by
    cases o with
    | dead => simp only [fdead, Option.some.injEq] at h; subst h; exact ⟨Nat.le_refl _, by simp⟩
    | _ =>
      simp only [fdead] at h
      obtain ⟨h1, h2⟩ := fdead_spec h
      exact ⟨by omega, by rw [show n - k = (n - (k + 1)) + 1 from by omega]; simpa using h2⟩

section
variable {C : Cx} {all l : List Oper} {k : Nat} {e : Env} {σ : St} {o : Oper} {acc : List Rec} {Q : Env → St → Prop}

theorem DL.cons {r r' : Rec} (hr : r.key = r') (hv : Valid C all.toArray k r e σ) (h : DL C all l (k + 1) (r.env e) (r.st σ) (r' :: acc) Q) : DL C all (o :: l) k e σ acc Q := by
  intro hall
  obtain ⟨rs, e', σ', h1, h2, h3⟩ := h fun j p hj => by have := hall (j + 1) p (by simpa using hj); rw [show k + 1 + j = k + (j + 1) from by omega]; exact this
  exact ⟨r :: rs, e', σ', .cons r hv h1, by simpa [hr] using h2, h3⟩

theorem DL.nil (ls : List Nat) {e' : Env} {σ' : St} (hck : check all acc.reverse [] = true) (hp : pick ls e = some e') (hσ : fS σ = some σ') (h : Q e' σ') : DL C all [] k e σ acc Q := by
  rw [fS_eq] at hσ; injection hσ with hσ; subst hσ
  exact fun _ => ⟨[], e, σ, .nil _ _ _, by simpa using hck, e', pick_sub hp, h⟩

theorem DL.skip (hg : guardOk e all o = some false) (hd : dstOk C.n o = true) {T : List Nat} (hT : fL (guardTmps all o) = some T)
    (h : DL C all l (k + 1) (Env.put e o.dst .undef) σ (⟨o.dst, .undef, [], T, []⟩ :: acc) Q) : DL C all (o :: l) k e σ acc Q := by
  rw [fL_eq] at hT; injection hT with hT; subst hT
  intro hall
  exact (DL.cons (r := ⟨o.dst, .undef, [], guardTmps all o, []⟩) rfl (Valid.skip (head_of hall) hg hd) h) hall

theorem DL.q (hT : C.T.fits C.P) (hg : guardOk e all o = some true) (hd : dstOk C.n o = true) (hm : makes C o = false)
    {v v' : V} (hop : aop C 0 e σ o = some (v, [])) (hv : fV v = some v') {T F : List Nat} (hT' : fL (reads all o) = some T) (hF' : fL (foot (opEnv e o) o) = some F)
    (h : DL C all l (k + 1) (Env.put e o.dst v') σ (⟨o.dst, .undef, [], T, F⟩ :: acc) Q) : DL C all (o :: l) k e σ acc Q := by
  rw [fV_eq] at hv; injection hv with hv; subst hv
  rw [fL_eq] at hT' hF'; injection hT' with hT'; injection hF' with hF'; subst hT'; subst hF'
  intro hall
  exact (DL.cons (r := ⟨o.dst, v, [], reads all o, foot (opEnv e o) o⟩) rfl (Valid.op hT (head_of hall) hg hd (fun h => by rw [hm] at h; simp at h) hop) h) hall

theorem DL.w (hT : C.T.fits C.P) (hg : guardOk e all o = some true) (hd : dstOk C.n o = true) (hm : makes C o = false)
    {v v' : V} {u : Upd} {σ' : St} (hop : aop C 0 e σ o = some (v, u)) (hv : fV v = some v') (hσ : fS (σ.upd u) = some σ') {T F ws : List Nat} (hT' : fL (reads all o) = some T) (hF' : fL (foot (opEnv e o) o) = some F) (hw : fL (u.map (·.1)) = some ws)
    (h : DL C all l (k + 1) (Env.put e o.dst v') σ' (⟨o.dst, .undef, ws.map fun i => (i, .dead), T, F⟩ :: acc) Q) : DL C all (o :: l) k e σ acc Q := by
  rw [fV_eq] at hv; injection hv with hv; subst hv
  rw [fS_eq] at hσ; injection hσ with hσ; subst hσ
  rw [fL_eq] at hT' hF' hw; injection hT' with hT'; injection hF' with hF'; injection hw with hw; subst hT'; subst hF'; subst hw
  intro hall
  exact (DL.cons (r := ⟨o.dst, v, u, reads all o, foot (opEnv e o) o⟩) (by simp [Rec.key, Function.comp_def]) (Valid.op hT (head_of hall) hg hd (fun h => by rw [hm] at h; simp at h) hop) h) hall

theorem DL.m (hT : C.T.fits C.P) (hg : guardOk e all o = some true) (hd : dstOk C.n o = true) {nid : Nat} (hn : fdead σ 0 = some nid)
    {v v' : V} {u : Upd} {σ' : St} (hop : aop C nid e σ o = some (v, u)) (hv : fV v = some v') (hσ : fS (σ.upd u) = some σ') {T F ws : List Nat} (hT' : fL (reads all o) = some T) (hF' : fL (foot (opEnv e o) o) = some F) (hw : fL (u.map (·.1)) = some ws)
    (hin : ws.elem nid = true)
    (h : DL C all l (k + 1) (Env.put e o.dst v') σ' (⟨o.dst, .undef, ws.map fun i => (i, .dead), T, F⟩ :: acc) Q) : DL C all (o :: l) k e σ acc Q := by
  rw [fV_eq] at hv; injection hv with hv; subst hv
  rw [fS_eq] at hσ; injection hσ with hσ; subst hσ
  rw [fL_eq] at hT' hF' hw; injection hT' with hT'; injection hF' with hF'; injection hw with hw; subst hT'; subst hF'; subst hw
  have hn' := fdead_spec hn
  intro hall
  exact (DL.cons (r := ⟨o.dst, v, u, reads all o, foot (opEnv e o) o⟩) (by simp [Rec.key, Function.comp_def]) (Valid.op hT (head_of hall) hg hd (fun _ => ⟨by simpa using hn'.2, by simpa using hin⟩) hop) h) hall

theorem DL.c (hg : guardOk e all o = some true) (hd : dstOk C.n o = true) {f : FuncId} {vs vs' : List V} {r : V} (hc : calleeOf (opEnv e o) o = some (f, vs)) (hsn : snapVs (inFoot (foot (opEnv e o) o) σ) vs = some vs')
    (hni : vs'.all noIds = true) (hS : Comp C.P f vs' r) (hr : noIds r = true) {T F : List Nat} (hT' : fL (reads all o) = some T) (hF' : fL (foot (opEnv e o) o) = some F)
    (h : DL C all l (k + 1) (Env.put e o.dst r) σ (⟨o.dst, .undef, [], T, F⟩ :: acc) Q) : DL C all (o :: l) k e σ acc Q := by
  rw [fL_eq] at hT' hF'; injection hT' with hT'; injection hF' with hF'; subst hT'; subst hF'
  intro hall
  exact (DL.cons (r := ⟨o.dst, r, [], reads all o, foot (opEnv e o) o⟩) rfl (Valid.call (head_of hall) hg hd hc hsn hni hS hr) h) hall
end

theorem SR.rooms {N κ w e a} : ∀ (m : Nat) {σ : St}, SR N κ w e σ a → SR N κ w e (σ ++ deads m) a ∧ Evo κ w σ κ w (σ ++ deads m)
  | 0, σ, h => by simp only [deads, List.append_nil]; exact ⟨h, .refl⟩
  | m + 1, σ, h => by
    obtain ⟨h1, h2⟩ := SR.rooms m h.room
    rw [show σ ++ deads (m + 1) = (σ ++ [.dead]) ++ deads m from by simp [deads]]
    exact ⟨h1, (Evo.room (κ := κ) (w := w) (σ := σ)).trans h2⟩

theorem SR.drawn {N κ w e σ a} (h : SR N κ w e σ a) : SR N κ { w with drawn := w.drawn + 1 } e σ a ∧ Evo κ w σ κ { w with drawn := w.drawn + 1 } σ := by
  obtain ⟨g1, g2⟩ := RS.fresh (κ' := κ) (w' := { w with drawn := w.drawn + 1 }) h.rs (fun _ _ h => h) rfl rfl (fun b o h => .inl h) (fun b _ => rfl) (Nat.le_refl _) rfl rfl rfl
  exact ⟨⟨fun t v ht => by obtain ⟨x, h1, h2, h3⟩ := h.env t v ht; exact ⟨x, h1, h2.stays g1.stays h3, h3⟩, g2, h.defers, h.size⟩, g1⟩

theorem W.draw {C : Cx} {all : List Oper} {e : Env} {σ σ1 : St} {id : Nat} {Q : Ex → Env → St → Prop} (hm : C.P.follows .mixedOrders = true) (hbk : backs all 0 = true)
    (hσ : fS (σ ++ deads (countMakes C all)) = some σ1) (h : DL C all all 0 e σ1 [] fun e' σ' => Q .normal e' σ') : W C (.region id all.toArray true) e σ Q := by
  rw [fS_eq] at hσ; injection hσ with hσ; subst hσ
  intro κ w a hs
  refine wp_region_any hm ?_
  obtain ⟨hs1, hev1⟩ := hs.drawn
  obtain ⟨hs2, hev2⟩ := hs1.rooms (countMakes C all)
  obtain ⟨rs, e', σ', hTr, hck, e2, hsub, hQ⟩ := h fun j o hj => by simpa using hj
  obtain ⟨he', hσ', hval⟩ := hTr.spec
  have hck' : check all rs [] = true := by
    rw [← check_key all rs []]; simpa using hck
  have hlen := (check_spec hck').1
  have hli : ∀ j, listed (Array.replicate all.toArray.size false) j = false := by
    intro j
    simp only [listed, Array.getD_eq_getD_getElem?, Array.getElem?_replicate]
    split <;> rfl
  refine draw_any (C := C) (ops := all.toArray) (rs := rs) (e0 := e) (σ0 := σ ++ deads (countMakes C all)) (κ0 := κ) (w0 := { w with drawn := w.drawn + 1 })
    (by simpa using hlen) (by simpa using hck') (by simpa using hbk) (fun i r hi => by have := hval i r hi; simpa using this) ?_ _ _ _ _ (by simp) ?_ ?_ ?_
  · intro κ' w' a' hev hs'
    rw [← he', ← hσ'] at hs'
    rw [← hσ'] at hev
    exact ⟨.normal, e2, σ', κ', rfl, hQ, hev1.trans (hev2.trans hev), hs'.sub hsub⟩
  · rw [List.filter_eq_self.2 (fun i _ => by rw [hli]; rfl)]; simp
  · intro j o _ hl; rw [hli] at hl; simp at hl
  · exact ⟨κ, e, _, .refl, hs2, fun t => by rw [envD_none fun j _ => hli j], fun id => by rw [stD_none fun j _ => hli j]⟩
end Go.Am
