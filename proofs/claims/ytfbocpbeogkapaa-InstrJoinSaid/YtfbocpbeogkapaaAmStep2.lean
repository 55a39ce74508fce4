/- The abstract machine: walking on: a Boolean value that is split; a code's ends. -/
import Derived.Test.YtfbocpbeogkapaaAmDraw2
set_option linter.unusedVariables false
set_option linter.unusedSimpArgs false
namespace Go.Am
/-- does an operation compare? -/
def isCmp (o : Oper) : Bool :=
  match o.op with
  | .binOp .eql _ _ _ _ | .binOp .neq _ _ _ _ | .binOp .lss _ _ _ _ | .binOp .leq _ _ _ _ | .binOp .gtr _ _ _ _ | .binOp .geq _ _ _ _ => true
  | _ => false
def ldead : St → Nat → Option Nat → Option Nat
  | [], _, r => r
  | .dead :: l, k, _ => ldead l (k + 1) (some k)
  | _ :: l, k, r => ldead l (k + 1) r
theorem ldead_spec : ∀ {σ : St} {k n : Nat} {r : Option Nat}, ldead σ k r = some n → r = some n ∨ k ≤ n ∧ σ[n - k]? = some .dead
  | [], _, _, _, h => .inl h
  | o :: l, k, n, r, h => by
    have step : ∀ {r'}, ldead l (k + 1) r' = some n → r' = some n ∨ k ≤ n ∧ (o :: l)[n - k]? = some .dead := by
      intro r' h'
      rcases ldead_spec h' with h1 | ⟨h1, h2⟩
      · exact .inl h1
      · exact .inr ⟨by omega, by rw [show n - k = (n - (k + 1)) + 1 from by omega]; simpa using h2⟩
    cases o with
    | dead =>
      simp only [ldead] at h
      rcases step h with h1 | h1
      · injection h1 with h1; subst h1; exact .inr ⟨Nat.le_refl _, by simp⟩
      · exact .inr h1
    | _ => simp only [ldead] at h; exact step h

/-- a variable, set: the environment as it stands -/
def nput (e : Env) (dst : Option Nat) (v : V) : Option Env :=
  match dst with
  | some t => some ((t, v) :: e)
  | none => some e
theorem nput_eq (e : Env) (dst : Option Nat) (v : V) : nput e dst v = some (Env.put e dst v) := by cases dst <;> rfl

section
variable {C : Cx} {all l : List Oper} {k : Nat} {e : Env} {σ : St} {o : Oper} {acc : List Rec} {Q : Env → St → Prop}

theorem WL.b (hcmp : isCmp o = true) (hT : C.T.fits C.P) (hg : guardOk e all o = some true) (hd : dstOk C.n o = true) (hm : makes C o = false)
    {b : Bool} (hop : aop C 0 e σ o = some (bool b, [])) (ht : b = true → WL C all l (k + 1) (Env.put e o.dst (bool true)) σ Q)
    (hf : b = false → WL C all l (k + 1) (Env.put e o.dst (bool false)) σ Q) : WL C all (o :: l) k e σ Q := by
  cases b with
  | true => exact WL.q hT hg hd hm hop (fV_eq _) (ht rfl)
  | false => exact WL.q hT hg hd hm hop (fV_eq _) (hf rfl)
theorem WL.t (hcmp : isCmp o = true) (hT : C.T.fits C.P) (hg : guardOk e all o = some true) (hd : dstOk C.n o = true) (hm : makes C o = false)
    {b : Bool} (hop : aop C 0 e σ o = some (bool b, [])) (hb : b = true) (ht : WL C all l (k + 1) (Env.put e o.dst (bool true)) σ Q) : WL C all (o :: l) k e σ Q := by
  subst hb; exact WL.q hT hg hd hm hop (fV_eq _) ht
theorem WL.f (hcmp : isCmp o = true) (hT : C.T.fits C.P) (hg : guardOk e all o = some true) (hd : dstOk C.n o = true) (hm : makes C o = false)
    {b : Bool} (hop : aop C 0 e σ o = some (bool b, [])) (hb : b = false) (ht : WL C all l (k + 1) (Env.put e o.dst (bool false)) σ Q) : WL C all (o :: l) k e σ Q := by
  subst hb; exact WL.q hT hg hd hm hop (fV_eq _) ht
theorem DL.b (hcmp : isCmp o = true) (hT : C.T.fits C.P) (hg : guardOk e all o = some true) (hd : dstOk C.n o = true) (hm : makes C o = false)
    {b : Bool} (hop : aop C 0 e σ o = some (bool b, [])) {T F : List Nat} (hT' : fL (reads all o) = some T) (hF' : fL (foot (opEnv e o) o) = some F)
    (ht : b = true → DL C all l (k + 1) (Env.put e o.dst (bool true)) σ (⟨o.dst, .undef, [], T, F⟩ :: acc) Q)
    (hf : b = false → DL C all l (k + 1) (Env.put e o.dst (bool false)) σ (⟨o.dst, .undef, [], T, F⟩ :: acc) Q) : DL C all (o :: l) k e σ acc Q := by
  cases b with
  | true => exact DL.q hT hg hd hm hop (fV_eq _) hT' hF' (ht rfl)
  | false => exact DL.q hT hg hd hm hop (fV_eq _) hT' hF' (hf rfl)
theorem DL.t (hcmp : isCmp o = true) (hT : C.T.fits C.P) (hg : guardOk e all o = some true) (hd : dstOk C.n o = true) (hm : makes C o = false)
    {b : Bool} (hop : aop C 0 e σ o = some (bool b, [])) {T F : List Nat} (hT' : fL (reads all o) = some T) (hF' : fL (foot (opEnv e o) o) = some F) (hb : b = true)
    (ht : DL C all l (k + 1) (Env.put e o.dst (bool true)) σ (⟨o.dst, .undef, [], T, F⟩ :: acc) Q) : DL C all (o :: l) k e σ acc Q := by
  subst hb; exact DL.q hT hg hd hm hop (fV_eq _) hT' hF' ht
theorem DL.f (hcmp : isCmp o = true) (hT : C.T.fits C.P) (hg : guardOk e all o = some true) (hd : dstOk C.n o = true) (hm : makes C o = false)
    {b : Bool} (hop : aop C 0 e σ o = some (bool b, [])) {T F : List Nat} (hT' : fL (reads all o) = some T) (hF' : fL (foot (opEnv e o) o) = some F) (hb : b = false)
    (ht : DL C all l (k + 1) (Env.put e o.dst (bool false)) σ (⟨o.dst, .undef, [], T, F⟩ :: acc) Q) : DL C all (o :: l) k e σ acc Q := by
  subst hb; exact DL.q hT hg hd hm hop (fV_eq _) hT' hF' ht

/-- an operation that could have made an object, and did not -/
theorem DL.m1 (hT : C.T.fits C.P) (hg : guardOk e all o = some true) (hd : dstOk C.n o = true) {nid : Nat} (hn : ldead σ 0 none = some nid)
    {v v' : V} {u : Upd} {σ' : St} (hop : aop C nid e σ o = some (v, u)) (hv : fV v = some v') (hσ : fS (σ.upd u) = some σ') {T F ws : List Nat} (hT' : fL (reads all o) = some T) (hF' : fL (foot (opEnv e o) o) = some F) (hw : fL (u.map (·.1)) = some ws)
    (h : DL C all l (k + 1) (Env.put e o.dst v') σ' (⟨o.dst, .undef, ws.map fun i => (i, .dead), T, nid :: F⟩ :: acc) Q) : DL C all (o :: l) k e σ acc Q := by
  rw [fV_eq] at hv; injection hv with hv; subst hv
  rw [fS_eq] at hσ; injection hσ with hσ; subst hσ
  rw [fL_eq] at hT' hF' hw; injection hT' with hT'; injection hF' with hF'; injection hw with hw; subst hT'; subst hF'; subst hw
  have hn' : σ[nid]? = some .dead := by
    rcases ldead_spec hn with h1 | h1
    · simp at h1
    · simpa using h1.2
  intro hall
  refine (DL.cons (r := ⟨o.dst, v, u, reads all o, nid :: foot (opEnv e o) o⟩) (by simp [Rec.key, Function.comp_def]) ?_ h) hall
  intro e2 σ2 hTm hF hlen Q K2 κ w a hs hK
  have hg2 : guardOk e2 all o = some true := by rw [guardOk_congr fun t ht => hTm t (by simp [reads, ht])]; exact hg
  have he : opEnv e2 o = opEnv e o := slots_congr fun t ht => hTm t (by simp [reads, ht])
  have hop2 : aop C nid e2 σ2 o = some (v, u) := by
    unfold aop at hop ⊢
    rw [he, inFoot_congr fun id hid => hF id (.inl (by simp [hid]))]; exact hop
  unfold wpOp
  simp only [head_of hall, guard_sound (ops := all.toArray) hs (by simpa using hg2), if_true]
  left
  obtain ⟨x, w', κ', hrun, hv, hu, hev, hR⟩ := aop_sound hT hs (fun hm => by rw [hF nid (.inl (by simp))]; exact hn') hop2
  have hs' : SR C.n κ' w' (Env.put e2 o.dst v) (σ2.upd u) (a.put o.dst x) := hs.put hev.stays hev.live hR hv hu (dstOk_spec hd)
  unfold Oper.wp
  rcases hrun with hrun | ⟨hrun, rfl⟩
  · rw [hrun]; exact hK κ' w' _ hev hs'
  · rw [hrun]; exact hK κ' w' _ hev hs'

/-! the same, with the environment written out -/
theorem WL.skip' (hg : guardOk e all o = some false) (hd : dstOk C.n o = true) {e' : Env} (he : nput e o.dst .undef = some e') (h : WL C all l (k + 1) e' σ Q) : WL C all (o :: l) k e σ Q := by
  rw [nput_eq] at he; injection he with he; subst he; exact WL.skip hg hd h
theorem WL.q' (hT : C.T.fits C.P) (hg : guardOk e all o = some true) (hd : dstOk C.n o = true) (hm : makes C o = false)
    {v v' : V} (hop : aop C 0 e σ o = some (v, [])) (hv : fV v = some v') {e' : Env} (he : nput e o.dst v' = some e') (h : WL C all l (k + 1) e' σ Q) : WL C all (o :: l) k e σ Q := by
  rw [nput_eq] at he; injection he with he; subst he; exact WL.q hT hg hd hm hop hv h
theorem WL.w' (hT : C.T.fits C.P) (hg : guardOk e all o = some true) (hd : dstOk C.n o = true) (hm : makes C o = false)
    {v v' : V} {u : Upd} {σ' : St} (hop : aop C 0 e σ o = some (v, u)) (hv : fV v = some v') (hσ : fS (σ.upd u) = some σ') {e' : Env} (he : nput e o.dst v' = some e') (h : WL C all l (k + 1) e' σ' Q) : WL C all (o :: l) k e σ Q := by
  rw [nput_eq] at he; injection he with he; subst he; exact WL.w hT hg hd hm hop hv hσ h
theorem WL.m' (hm : makes C o = true) (hT : C.T.fits C.P) (hg : guardOk e all o = some true) (hd : dstOk C.n o = true)
    {v v' : V} {u : Upd} {σ' : St} (hop : aop C σ.length e (σ ++ [.dead]) o = some (v, u)) (hv : fV v = some v') (hσ : fS (St.upd (σ ++ [.dead]) u) = some σ')
    {e' : Env} (he : nput e o.dst v' = some e') (h : WL C all l (k + 1) e' σ' Q) : WL C all (o :: l) k e σ Q := by
  rw [nput_eq] at he; injection he with he; subst he; exact WL.m hT hg hd hop hv hσ h
theorem WL.b' (hcmp : isCmp o = true) (hT : C.T.fits C.P) (hg : guardOk e all o = some true) (hd : dstOk C.n o = true) (hm : makes C o = false)
    {b : Bool} (hop : aop C 0 e σ o = some (bool b, [])) {e1 e2 : Env} (he1 : nput e o.dst (bool true) = some e1) (he2 : nput e o.dst (bool false) = some e2)
    (ht : b = true → WL C all l (k + 1) e1 σ Q) (hf : b = false → WL C all l (k + 1) e2 σ Q) : WL C all (o :: l) k e σ Q := by
  rw [nput_eq] at he1 he2; injection he1 with he1; injection he2 with he2; subst he1; subst he2; exact WL.b hcmp hT hg hd hm hop ht hf
theorem WL.t' (hcmp : isCmp o = true) (hT : C.T.fits C.P) (hg : guardOk e all o = some true) (hd : dstOk C.n o = true) (hm : makes C o = false)
    {b : Bool} (hop : aop C 0 e σ o = some (bool b, [])) (hb : b = true) {e' : Env} (he : nput e o.dst (bool true) = some e') (h : WL C all l (k + 1) e' σ Q) : WL C all (o :: l) k e σ Q := by
  rw [nput_eq] at he; injection he with he; subst he; exact WL.t hcmp hT hg hd hm hop hb h
theorem WL.f' (hcmp : isCmp o = true) (hT : C.T.fits C.P) (hg : guardOk e all o = some true) (hd : dstOk C.n o = true) (hm : makes C o = false)
    {b : Bool} (hop : aop C 0 e σ o = some (bool b, [])) (hb : b = false) {e' : Env} (he : nput e o.dst (bool false) = some e') (h : WL C all l (k + 1) e' σ Q) : WL C all (o :: l) k e σ Q := by
  rw [nput_eq] at he; injection he with he; subst he; exact WL.f hcmp hT hg hd hm hop hb h
theorem WL.c' (hic : isCall o = true) (hg : guardOk e all o = some true) (hd : dstOk C.n o = true) {f : FuncId} {vs vs' : List V} {r : V} (hc : calleeOf e o = some (f, vs)) (hsn : snapVs (fun id => σ[id]?) vs = some vs')
    (hni : vs'.all noIds = true) (hS : Comp C.P f vs' r) (hr : noIds r = true) {e' : Env} (he : nput e o.dst r = some e') (h : WL C all l (k + 1) e' σ Q) : WL C all (o :: l) k e σ Q := by
  rw [nput_eq] at he; injection he with he; subst he; exact WL.c hg hd hc hsn hni hS hr h
theorem DL.skip' (hg : guardOk e all o = some false) (hd : dstOk C.n o = true) {T : List Nat} (hT : fL (guardTmps all o) = some T) {e' : Env} (he : nput e o.dst .undef = some e')
    (h : DL C all l (k + 1) e' σ (⟨o.dst, .undef, [], T, []⟩ :: acc) Q) : DL C all (o :: l) k e σ acc Q := by
  rw [nput_eq] at he; injection he with he; subst he; exact DL.skip hg hd hT h
theorem DL.q' (hT : C.T.fits C.P) (hg : guardOk e all o = some true) (hd : dstOk C.n o = true) (hm : makes C o = false)
    {v v' : V} (hop : aop C 0 e σ o = some (v, [])) (hv : fV v = some v') {T F : List Nat} (hT' : fL (reads all o) = some T) (hF' : fL (foot (opEnv e o) o) = some F) {e' : Env} (he : nput e o.dst v' = some e')
    (h : DL C all l (k + 1) e' σ (⟨o.dst, .undef, [], T, F⟩ :: acc) Q) : DL C all (o :: l) k e σ acc Q := by
  rw [nput_eq] at he; injection he with he; subst he; exact DL.q hT hg hd hm hop hv hT' hF' h
theorem DL.w' (hT : C.T.fits C.P) (hg : guardOk e all o = some true) (hd : dstOk C.n o = true) (hm : makes C o = false)
    {v v' : V} {u : Upd} {σ' : St} (hop : aop C 0 e σ o = some (v, u)) (hv : fV v = some v') (hσ : fS (σ.upd u) = some σ') {T F ws : List Nat} (hT' : fL (reads all o) = some T) (hF' : fL (foot (opEnv e o) o) = some F) (hw : fL (u.map (·.1)) = some ws)
    {e' : Env} (he : nput e o.dst v' = some e') (h : DL C all l (k + 1) e' σ' (⟨o.dst, .undef, ws.map fun i => (i, .dead), T, F⟩ :: acc) Q) : DL C all (o :: l) k e σ acc Q := by
  rw [nput_eq] at he; injection he with he; subst he; exact DL.w hT hg hd hm hop hv hσ hT' hF' hw h
theorem DL.m' (hm : makes C o = true) (hT : C.T.fits C.P) (hg : guardOk e all o = some true) (hd : dstOk C.n o = true) {nid : Nat} (hn : fdead σ 0 = some nid)
    {v v' : V} {u : Upd} {σ' : St} (hop : aop C nid e σ o = some (v, u)) (hv : fV v = some v') (hσ : fS (σ.upd u) = some σ') {T F ws : List Nat} (hT' : fL (reads all o) = some T) (hF' : fL (foot (opEnv e o) o) = some F) (hw : fL (u.map (·.1)) = some ws)
    (hin : ws.elem nid = true) {e' : Env} (he : nput e o.dst v' = some e') (h : DL C all l (k + 1) e' σ' (⟨o.dst, .undef, ws.map fun i => (i, .dead), T, F⟩ :: acc) Q) : DL C all (o :: l) k e σ acc Q := by
  rw [nput_eq] at he; injection he with he; subst he; exact DL.m hT hg hd hn hop hv hσ hT' hF' hw hin h
theorem DL.n' (hm : makes C o = true) (hT : C.T.fits C.P) (hg : guardOk e all o = some true) (hd : dstOk C.n o = true) {nid : Nat} (hn : ldead σ 0 none = some nid)
    {v v' : V} {u : Upd} {σ' : St} (hop : aop C nid e σ o = some (v, u)) (hv : fV v = some v') (hσ : fS (σ.upd u) = some σ') {T F ws : List Nat} (hT' : fL (reads all o) = some T) (hF' : fL (foot (opEnv e o) o) = some F) (hw : fL (u.map (·.1)) = some ws)
    {e' : Env} (he : nput e o.dst v' = some e') (h : DL C all l (k + 1) e' σ' (⟨o.dst, .undef, ws.map fun i => (i, .dead), T, nid :: F⟩ :: acc) Q) : DL C all (o :: l) k e σ acc Q := by
  rw [nput_eq] at he; injection he with he; subst he; exact DL.m1 hT hg hd hn hop hv hσ hT' hF' hw h
theorem DL.b' (hcmp : isCmp o = true) (hT : C.T.fits C.P) (hg : guardOk e all o = some true) (hd : dstOk C.n o = true) (hm : makes C o = false)
    {b : Bool} (hop : aop C 0 e σ o = some (bool b, [])) {T F : List Nat} (hT' : fL (reads all o) = some T) (hF' : fL (foot (opEnv e o) o) = some F) {e1 e2 : Env} (he1 : nput e o.dst (bool true) = some e1) (he2 : nput e o.dst (bool false) = some e2)
    (ht : b = true → DL C all l (k + 1) e1 σ (⟨o.dst, .undef, [], T, F⟩ :: acc) Q) (hf : b = false → DL C all l (k + 1) e2 σ (⟨o.dst, .undef, [], T, F⟩ :: acc) Q) : DL C all (o :: l) k e σ acc Q := by
  rw [nput_eq] at he1 he2; injection he1 with he1; injection he2 with he2; subst he1; subst he2; exact DL.b hcmp hT hg hd hm hop hT' hF' ht hf
theorem DL.t' (hcmp : isCmp o = true) (hT : C.T.fits C.P) (hg : guardOk e all o = some true) (hd : dstOk C.n o = true) (hm : makes C o = false)
    {b : Bool} (hop : aop C 0 e σ o = some (bool b, [])) (hb : b = true) {T F : List Nat} (hT' : fL (reads all o) = some T) (hF' : fL (foot (opEnv e o) o) = some F) {e' : Env} (he : nput e o.dst (bool true) = some e')
    (h : DL C all l (k + 1) e' σ (⟨o.dst, .undef, [], T, F⟩ :: acc) Q) : DL C all (o :: l) k e σ acc Q := by
  rw [nput_eq] at he; injection he with he; subst he; exact DL.t hcmp hT hg hd hm hop hT' hF' hb h
theorem DL.f' (hcmp : isCmp o = true) (hT : C.T.fits C.P) (hg : guardOk e all o = some true) (hd : dstOk C.n o = true) (hm : makes C o = false)
    {b : Bool} (hop : aop C 0 e σ o = some (bool b, [])) (hb : b = false) {T F : List Nat} (hT' : fL (reads all o) = some T) (hF' : fL (foot (opEnv e o) o) = some F) {e' : Env} (he : nput e o.dst (bool false) = some e')
    (h : DL C all l (k + 1) e' σ (⟨o.dst, .undef, [], T, F⟩ :: acc) Q) : DL C all (o :: l) k e σ acc Q := by
  rw [nput_eq] at he; injection he with he; subst he; exact DL.f hcmp hT hg hd hm hop hT' hF' hb h
theorem DL.c' (hic : isCall o = true) (hg : guardOk e all o = some true) (hd : dstOk C.n o = true) {f : FuncId} {vs vs' : List V} {r : V} (hc : calleeOf (opEnv e o) o = some (f, vs)) (hsn : snapVs (inFoot (foot (opEnv e o) o) σ) vs = some vs')
    (hni : vs'.all noIds = true) (hS : Comp C.P f vs' r) (hr : noIds r = true) {T F : List Nat} (hT' : fL (reads all o) = some T) (hF' : fL (foot (opEnv e o) o) = some F) {e' : Env} (he : nput e o.dst r = some e')
    (h : DL C all l (k + 1) e' σ (⟨o.dst, .undef, [], T, F⟩ :: acc) Q) : DL C all (o :: l) k e σ acc Q := by
  rw [nput_eq] at he; injection he with he; subst he; exact DL.c hg hd hc hsn hni hS hr hT' hF' h

/-- a region's end: all variables are kept -/
theorem WL.fin (h : Q e σ) : WL C all [] k e σ Q := fun _ κ w a hs => (WO.nil (Q := Q) (C := C) (ops := all.toArray) (e := e) h) κ w a hs
theorem DL.fin (hck : check all acc.reverse [] = true) (h : Q e σ) : DL C all [] k e σ acc Q :=
  fun _ => ⟨[], e, σ, .nil _ _ _, by simpa using hck, e, fun _ _ h => h, h⟩

/-- a function's end: the results as they stand -/
theorem Fin.mk {C : Cx} {rs : List ResultVar} {n : Nat} {e : Env} {σ : St} {R : V → St → Prop} {vs : List V} {v r r' : V} {σ' : St} (h1 : resOf C.T e (fun id => σ[id]?) rs = some vs) (h2 : tupled vs = some v) (h3 : snapV (fun id => σ[id]?) v = some r) (hr : fV r = some r')
    (h4 : fS (σ.take n) = some σ') (h5 : r'.under (alive σ') = true) (h6 : (σ'.all fun o => o.under (alive σ')) = true) (h7 : R r' σ') : Fin C rs n e σ R := by
  rw [fS_eq] at h4; injection h4 with h4; subst h4
  rw [fV_eq] at hr; injection hr with hr; subst hr
  exact ⟨vs, v, r, _, h1, h2, .inr h3, .inr ⟨rfl, h5, h6⟩, h7⟩
end
end Go.Am
