/- The abstract machine: a region that draws its order. -/
import Derived.Test.YtfbocpbeogkapaaAmStep
set_option linter.unusedVariables false
set_option linter.unusedSimpArgs false
namespace Go.Am

/-- what an operation did: what it wrote, what it read -/
structure Rec where
  dst : Option Nat
  v : V
  u : Upd
  T : List Nat
  F : List Nat

def Rec.env (r : Rec) (e : Env) : Env := Env.put e r.dst r.v
def Rec.st (r : Rec) (σ : St) : St := σ.upd r.u
/-- the ids that are written -/
def Rec.ws (r : Rec) : List Nat := r.u.map (·.1)

/-- an operation does so wherever what it reads is the same -/
def Valid (C : Cx) (ops : Array Oper) (i : Nat) (r : Rec) (e : Env) (σ : St) : Prop :=
  ∀ e2 σ2, (∀ t ∈ r.T, Env.get e2 t = Env.get e t) → (∀ id, id ∈ r.F ∨ id ∈ r.ws → σ2[id]? = σ[id]?) → σ2.length = σ.length →
    ∀ (Q : Exit → Act → World → Prop) (K : Act → World → Prop) κ w a, SR C.n κ w e2 σ2 a →
      (∀ κ' w' a', Evo κ w σ2 κ' w' (r.st σ2) → SR C.n κ' w' (r.env e2) (r.st σ2) a' → K a' w') → wpOp C.P ops Q i K a w

def disjoint (a b : List Nat) : Bool := a.all fun x => !b.elem x
def notIn (d : Option Nat) (l : List Nat) : Bool :=
  match d with
  | some t => !l.elem t
  | none => true
def otherDst (a b : Option Nat) : Bool :=
  match a, b with
  | some x, some y => !Nat.beq x y
  | _, _ => true
/-- two operations that may stand in either order -/
def free (p r : Rec) : Bool :=
  (notIn p.dst r.T && notIn r.dst p.T && otherDst p.dst r.dst) && (disjoint p.ws r.F && disjoint p.ws r.ws && disjoint r.ws p.F)
/-- is the operation behind held to come after number i? -/
def edge (o : Oper) (i : Nat) : Bool := o.after.toList.any fun e => Nat.beq e.on i && Region.binds .any e
def checkOne (o : Oper) (r : Rec) : List Rec → Nat → Bool
  | [], _ => true
  | p :: ps, i => (edge o i || free p r) && checkOne o r ps (i + 1)
/-- every two operations are held in their order, or may stand in either -/
def check : List Oper → List Rec → List Rec → Bool
  | [], [], _ => true
  | o :: os, r :: rs, done => checkOne o r done 0 && check os rs (done ++ [r])
  | _, _, _ => false

theorem checkOne_spec {o : Oper} {r : Rec} : ∀ {ps : List Rec} {k : Nat}, checkOne o r ps k = true → ∀ j p, ps[j]? = some p → edge o (k + j) = true ∨ free p r = true
  | [], _, _, j, p, h => by simp at h
  | q :: ps, k, h, j, p, hp => by
    simp only [checkOne, Bool.and_eq_true, Bool.or_eq_true] at h
    cases j with
    | zero => simp at hp; subst hp; exact h.1
    | succ j =>
      have := checkOne_spec h.2 j p (by simpa using hp)
      rw [show k + (j + 1) = k + 1 + j from by omega]; exact this

theorem check_spec : ∀ {os : List Oper} {rs done : List Rec}, check os rs done = true → rs.length = os.length ∧
    ∀ i o r, os[i]? = some o → rs[i]? = some r → ∀ j p, (done ++ rs)[j]? = some p → j < done.length + i → edge o j = true ∨ free p r = true
  | [], [], done, _ => ⟨rfl, fun i o r h => by simp at h⟩
  | [], _ :: _, _, h => by simp [check] at h
  | _ :: _, [], _, h => by simp [check] at h
  | o :: os, r :: rs, done, h => by
    simp only [check, Bool.and_eq_true] at h
    obtain ⟨h1, h2⟩ := check_spec h.2
    refine ⟨by simp [h1], fun i o' r' ho hr j p hp hj => ?_⟩
    cases i with
    | zero =>
      simp at ho hr; subst ho; subst hr
      have := checkOne_spec h.1 j p (by rw [List.getElem?_append] at hp; rw [if_pos (by omega)] at hp; exact hp)
      simpa using this
    | succ i =>
      refine h2 i o' r' (by simpa using ho) (by simpa using hr) j p ?_ (by simp; omega)
      simpa using hp

/-! states in which some of the operations are done -/
def envD (L : Nat → Bool) : List Rec → Nat → Env → Env
  | [], _, e => e
  | r :: rs, k, e => envD L rs (k + 1) (bif L k then r.env e else e)
def stD (L : Nat → Bool) : List Rec → Nat → St → St
  | [], _, σ => σ
  | r :: rs, k, σ => stD L rs (k + 1) (bif L k then r.st σ else σ)

theorem put_get (e : Env) (d : Option Nat) (v : V) (t : Nat) : Env.get (Env.put e d v) t = if d = some t then some v else Env.get e t := by
  cases d with
  | none => simp [Env.put]
  | some s =>
    simp only [Env.put, Env.get_set]
    by_cases h : t = s
    · subst h; simp
    · rw [if_neg h, if_neg (by simp; exact fun e => h e.symm)]

theorem upd_length : ∀ (u : Upd) (σ : St), (σ.upd u).length = σ.length
  | [], _ => rfl
  | (i, o) :: u, σ => by simp only [St.upd]; rw [upd_length u]; simp
theorem upd_other : ∀ {u : Upd} {σ : St} {id : Nat}, id ∉ u.map (·.1) → (σ.upd u)[id]? = σ[id]?
  | [], _, _, _ => rfl
  | (i, o) :: u, σ, id, h => by
    simp only [List.map_cons, List.mem_cons, not_or] at h
    simp only [St.upd]
    rw [upd_other h.2, List.getElem?_set_ne (fun e => h.1 e.symm)]
theorem upd_congr : ∀ {u : Upd} {σ σ2 : St} {id : Nat}, σ2.length = σ.length → σ2[id]? = σ[id]? → (σ2.upd u)[id]? = (σ.upd u)[id]?
  | [], _, _, _, _, h => h
  | (i, o) :: u, σ, σ2, id, hl, h => by
    simp only [St.upd]
    refine upd_congr (by simp [hl]) ?_
    by_cases hi : i = id
    · subst hi
      by_cases hlt : i < σ.length
      · rw [List.getElem?_set_self hlt, List.getElem?_set_self (by omega)]
      · rw [List.getElem?_eq_none (by simp; omega), List.getElem?_eq_none (by simp; omega)]
    · rw [List.getElem?_set_ne hi, List.getElem?_set_ne hi]; exact h

theorem stD_length (L : Nat → Bool) : ∀ (rs : List Rec) (k : Nat) (σ : St), (stD L rs k σ).length = σ.length
  | [], _, _ => rfl
  | r :: rs, k, σ => by
    simp only [stD]; rw [stD_length L rs]
    cases L k
    · rfl
    · exact upd_length _ _

/-- looking up a temporary that none of the later ones writes -/
theorem envD_skip (L : Nat → Bool) (t : Nat) : ∀ (rs : List Rec) (k : Nat) (e : Env), (∀ j r, rs[j]? = some r → L (k + j) = true → r.dst ≠ some t) → Env.get (envD L rs k e) t = Env.get e t
  | [], _, _, _ => rfl
  | r :: rs, k, e, h => by
    simp only [envD]
    rw [envD_skip L t rs (k + 1) _ fun j r' hj hL => h (j + 1) r' (by simpa using hj) (by rw [show k + (j + 1) = k + 1 + j from by omega]; exact hL)]
    cases hk : L k with
    | false => rfl
    | true =>
      simp only [cond_true, Rec.env, put_get]
      rw [if_neg (h 0 r rfl (by simpa using hk))]
theorem stD_skip (L : Nat → Bool) (id : Nat) : ∀ (rs : List Rec) (k : Nat) (σ : St), (∀ j r, rs[j]? = some r → L (k + j) = true → id ∉ r.ws) → (stD L rs k σ)[id]? = σ[id]?
  | [], _, _, _ => rfl
  | r :: rs, k, σ, h => by
    simp only [stD]
    rw [stD_skip L id rs (k + 1) _ fun j r' hj hL => h (j + 1) r' (by simpa using hj) (by rw [show k + (j + 1) = k + 1 + j from by omega]; exact hL)]
    cases hk : L k with
    | false => rfl
    | true => exact upd_other (h 0 r rfl (by simpa using hk))

theorem envD_congr (L : Nat → Bool) (t : Nat) : ∀ (rs : List Rec) (k : Nat) (e e2 : Env), Env.get e2 t = Env.get e t → Env.get (envD L rs k e2) t = Env.get (envD L rs k e) t
  | [], _, _, _, h => h
  | r :: rs, k, e, e2, h => by
    simp only [envD]
    refine envD_congr L t rs (k + 1) _ _ ?_
    cases L k with
    | false => exact h
    | true => simp only [cond_true, Rec.env, put_get, h]
theorem stD_congr (L : Nat → Bool) (id : Nat) : ∀ (rs : List Rec) (k : Nat) (σ σ2 : St), σ2.length = σ.length → σ2[id]? = σ[id]? → (stD L rs k σ2)[id]? = (stD L rs k σ)[id]?
  | [], _, _, _, _, h => h
  | r :: rs, k, σ, σ2, hl, h => by
    simp only [stD]
    refine stD_congr L id rs (k + 1) _ _ ?_ ?_
    · cases L k
      · exact hl
      · simp only [cond_true, Rec.st, upd_length]; exact hl
    · cases L k with
      | false => exact h
      | true => exact upd_congr hl h

theorem envD_agree (t : Nat) {L M : Nat → Bool} : ∀ (rs : List Rec) (k : Nat) (e : Env), (∀ j r, rs[j]? = some r → L (k + j) ≠ M (k + j) → r.dst ≠ some t) → Env.get (envD L rs k e) t = Env.get (envD M rs k e) t
  | [], _, _, _ => rfl
  | r :: rs, k, e, h => by
    simp only [envD]
    have ih := fun e => envD_agree t (L := L) (M := M) rs (k + 1) e fun j r' hj hne => h (j + 1) r' (by simpa using hj) (by rw [show k + (j + 1) = k + 1 + j from by omega]; exact hne)
    by_cases hk : L k = M k
    · rw [hk]; exact ih _
    · have hd := h 0 r rfl (by simpa using hk)
      rw [ih]
      refine envD_congr M t rs (k + 1) _ _ ?_
      have hp : ∀ b : Bool, Env.get (bif b then r.env e else e) t = Env.get e t := by
        intro b; cases b
        · rfl
        · simp only [cond_true, Rec.env, put_get]; rw [if_neg hd]
      rw [hp, hp]
theorem cond_length (b : Bool) (r : Rec) (σ : St) : (bif b then r.st σ else σ).length = σ.length := by
  cases b
  · rfl
  · exact upd_length _ _
theorem stD_agree (id : Nat) {L M : Nat → Bool} : ∀ (rs : List Rec) (k : Nat) (σ : St), (∀ j r, rs[j]? = some r → L (k + j) ≠ M (k + j) → id ∉ r.ws) → (stD L rs k σ)[id]? = (stD M rs k σ)[id]?
  | [], _, _, _ => rfl
  | r :: rs, k, σ, h => by
    simp only [stD]
    have ih := fun σ => stD_agree id (L := L) (M := M) rs (k + 1) σ fun j r' hj hne => h (j + 1) r' (by simpa using hj) (by rw [show k + (j + 1) = k + 1 + j from by omega]; exact hne)
    by_cases hk : L k = M k
    · rw [hk]; exact ih _
    · have hd := h 0 r rfl (by simpa using hk)
      rw [ih]
      refine stD_congr M id rs (k + 1) _ _ (by rw [cond_length, cond_length]) ?_
      have hp : ∀ b : Bool, (bif b then r.st σ else σ)[id]? = σ[id]? := by
        intro b; cases b
        · rfl
        · exact upd_other hd
      rw [hp, hp]

/-- one more is done: its destination, its objects; all else as before -/
theorem envD_more {L L' : Nat → Bool} {i : Nat} (hs : ∀ j, L' j = if i = j then true else L j) (hLi : L i = false) {r : Rec} {t : Nat} : ∀ (rs : List Rec) (k : Nat) (e : Env), k ≤ i → rs[i - k]? = some r →
    (∀ j r', rs[j]? = some r' → k + j > i → L (k + j) = true → otherDst r'.dst r.dst = true) →
    Env.get (envD L' rs k e) t = if r.dst = some t then some r.v else Env.get (envD L rs k e) t
  | [], k, e, hk, hr, _ => by simp at hr
  | p :: rs, k, e, hk, hr, hall => by
    simp only [envD]
    by_cases hki : i = k
    · subst hki
      simp at hr; subst hr
      rw [hs i]
      simp only [if_true, cond_true, hLi, cond_false]
      rw [envD_agree t (L := L') (M := L) rs (i + 1) _ fun j r' hj hne => absurd (by rw [hs]; rw [if_neg (by omega)]) hne]
      by_cases hd : p.dst = some t
      · rw [if_pos hd, envD_skip]
        · simp [Rec.env, put_get, hd]
        · intro j r' hj hL he
          have := hall (j + 1) r' (by simpa using hj) (by omega) (by rw [show i + (j + 1) = i + 1 + j from by omega]; exact hL)
          rw [he, hd] at this; simp [otherDst] at this
      · rw [if_neg hd]
        exact envD_congr L t rs (i + 1) e _ (by simp [Rec.env, put_get, hd])
    · rw [show L' k = L k from by rw [hs]; rw [if_neg hki]]
      refine envD_more hs hLi rs (k + 1) _ (by omega) ?_ ?_
      · rw [show i - k = (i - (k + 1)) + 1 from by omega] at hr; simpa using hr
      · intro j r' hj hgt hL
        exact hall (j + 1) r' (by simpa using hj) (by omega) (by rw [show k + (j + 1) = k + 1 + j from by omega]; exact hL)

theorem stD_more {L L' : Nat → Bool} {i : Nat} (hs : ∀ j, L' j = if i = j then true else L j) (hLi : L i = false) {r : Rec} {id : Nat} : ∀ (rs : List Rec) (k : Nat) (σ : St), k ≤ i → rs[i - k]? = some r →
    (∀ j r', rs[j]? = some r' → k + j > i → L (k + j) = true → disjoint r.ws r'.ws = true) →
    (∀ j r', rs[j]? = some r' → k + j < i → L (k + j) = true → True) →
    (stD L' rs k σ)[id]? = (r.st (stD L rs k σ))[id]?
  | [], k, e, hk, hr, _, _ => by simp at hr
  | p :: rs, k, σ, hk, hr, hall, _ => by
    simp only [stD]
    by_cases hki : i = k
    · subst hki
      simp at hr; subst hr
      rw [hs i]
      simp only [if_true, cond_true, hLi, cond_false]
      rw [stD_agree id (L := L') (M := L) rs (i + 1) _ fun j r' hj hne => absurd (by rw [hs]; rw [if_neg (by omega)]) hne]
      by_cases hd : id ∈ p.ws
      · rw [stD_skip]
        · refine (upd_congr ?_ ?_).symm
          · exact stD_length _ _ _ _
          · refine stD_skip L id rs (i + 1) σ fun j r' hj hL he => ?_
            have := hall (j + 1) r' (by simpa using hj) (by omega) (by rw [show i + (j + 1) = i + 1 + j from by omega]; exact hL)
            simp only [disjoint, List.all_eq_true] at this
            have := this id hd
            simp at this; exact this he
        · intro j r' hj hL he
          have := hall (j + 1) r' (by simpa using hj) (by omega) (by rw [show i + (j + 1) = i + 1 + j from by omega]; exact hL)
          simp only [disjoint, List.all_eq_true] at this
          have := this id hd
          simp at this; exact this he
      · rw [show (p.st (stD L rs (i + 1) σ))[id]? = (stD L rs (i + 1) σ)[id]? from upd_other hd]
        exact stD_congr L id rs (i + 1) σ _ (upd_length _ _) (upd_other hd)
    · rw [show L' k = L k from by rw [hs]; rw [if_neg hki]]
      refine stD_more hs hLi rs (k + 1) _ (by omega) ?_ ?_ (fun _ _ _ _ _ => trivial)
      · rw [show i - k = (i - (k + 1)) + 1 from by omega] at hr; simpa using hr
      · intro j r' hj hgt hL
        exact hall (j + 1) r' (by simpa using hj) (by omega) (by rw [show k + (j + 1) = k + 1 + j from by omega]; exact hL)

/-- all edges lead back -/
def backs : List Oper → Nat → Bool
  | [], _ => true
  | o :: os, i => (o.after.toList.all fun e => !Region.binds .any e || Nat.blt e.on i) && backs os (i + 1)
theorem backs_spec : ∀ {os : List Oper} {k : Nat}, backs os k = true → ∀ i o, os[i]? = some o → ∀ e ∈ o.after.toList, Region.binds .any e = true → e.on < k + i
  | [], _, _, i, o, h => by simp at h
  | p :: os, k, h, i, o, ho => by
    simp only [backs, Bool.and_eq_true, List.all_eq_true, Bool.or_eq_true] at h
    cases i with
    | zero =>
      simp at ho; subst ho
      intro e he hb
      rcases h.1 e he with h1 | h1
      · rw [hb] at h1; simp at h1
      · exact Nat.le_of_ble_eq_true h1
    | succ i =>
      intro e he hb
      have := backs_spec h.2 i o (by simpa using ho) e he hb
      omega

theorem SR.same {N κ w e σ a e' σ'} (h : SR N κ w e σ a) (he : ∀ t, Env.get e' t = Env.get e t) (hσ : ∀ id : Nat, σ'[id]? = σ[id]?) : SR N κ w e' σ' a := by
  have : σ' = σ := List.ext_getElem? hσ
  subst this
  exact ⟨fun t v ht => h.env t v (he t ▸ ht), h.rs, h.defers, h.size⟩

section
variable {C : Cx} {ops : Array Oper} {rs : List Rec} {e0 : Env} {σ0 : St} {κ0 : K} {w0 : World} {Q : Exit → Act → World → Prop}

def listed (L : Array Bool) : Nat → Bool := fun j => L.getD j false

theorem draw_any (hlen : rs.length = ops.size) (hck : check ops.toList rs [] = true) (hbk : backs ops.toList 0 = true)
    (hval : ∀ i r, rs[i]? = some r → Valid C ops i r (envD (fun j => decide (j < i)) rs 0 e0) (stD (fun j => decide (j < i)) rs 0 σ0))
    (hQ : ∀ κ w a, Evo κ0 w0 σ0 κ w (stD (fun _ => true) rs 0 σ0) → SR C.n κ w (envD (fun _ => true) rs 0 e0) (stD (fun _ => true) rs 0 σ0) a → Q .normal a w) :
    ∀ (fuel : Nat) (L : Array Bool) (a : Act) (w : World), L.size = ops.size → ((List.range ops.size).filter fun i => !listed L i).length = fuel →
      (∀ j o, ops[j]? = some o → listed L j = true → ∀ e ∈ o.after.toList, Region.binds .any e = true → listed L e.on = true) →
      (∃ κ e σ, Evo κ0 w0 σ0 κ w σ ∧ SR C.n κ w e σ a ∧ (∀ t, Env.get e t = Env.get (envD (listed L) rs 0 e0) t) ∧ ∀ id : Nat, σ[id]? = (stD (listed L) rs 0 σ0)[id]?) →
      wpAny C.P .any ops Q fuel L a w := by
  obtain ⟨_, hcs⟩ := check_spec hck
  have hgetL : ∀ (L : Array Bool) (i : Nat), L.size = ops.size → i < ops.size → L.getD i true = listed L i := by
    intro L i hL hi
    simp [listed, show i < L.size by omega]
  have hready : ∀ (L : Array Bool), L.size = ops.size → ∀ i, i ∈ Region.ready .any ops L → i < ops.size ∧ listed L i = false ∧ ∀ o, ops[i]? = some o → ∀ e ∈ o.after.toList, Region.binds .any e = true → listed L e.on = true := by
    intro L hL i hi
    simp only [Region.ready, List.mem_filter, List.mem_range, Bool.and_eq_true, Bool.not_eq_true'] at hi
    obtain ⟨h1, h2, h3⟩ := hi
    rw [hgetL L i hL h1] at h2
    refine ⟨h1, h2, fun o ho e he hb => ?_⟩
    rw [ho] at h3
    simp only [Option.map_some, Option.getD_some, Array.all_eq_true'] at h3
    have := h3 e (Array.mem_toList_iff.1 he)
    rw [hb] at this
    simpa [listed] using this
  have hfinal : ∀ (L : Array Bool) (a : Act) (w : World), (∀ j, j < ops.size → listed L j = true) →
      (∃ κ e σ, Evo κ0 w0 σ0 κ w σ ∧ SR C.n κ w e σ a ∧ (∀ t, Env.get e t = Env.get (envD (listed L) rs 0 e0) t) ∧ ∀ id : Nat, σ[id]? = (stD (listed L) rs 0 σ0)[id]?) → Q .normal a w := by
    intro L a w hall ⟨κ, e, σ, hev, hs, he, hσ⟩
    have hj : ∀ j r, rs[j]? = some r → listed L (0 + j) = true := fun j r hr => by
      rw [Nat.zero_add]; exact hall j (by rw [← hlen]; exact (List.getElem?_eq_some_iff.1 hr).1)
    have he' : ∀ t, Env.get (envD (fun _ => true) rs 0 e0) t = Env.get e t := fun t => by
      rw [he t]; exact (envD_agree t rs 0 e0 fun j r hr hne => absurd (hj j r hr) (fun h => hne h)).symm
    have hσ' : ∀ id : Nat, (stD (fun _ => true) rs 0 σ0)[id]? = σ[id]? := fun id => by
      rw [hσ id]; exact (stD_agree id rs 0 σ0 fun j r hr hne => absurd (hj j r hr) (fun h => hne h)).symm
    have : stD (fun _ => true) rs 0 σ0 = σ := List.ext_getElem? hσ'
    exact hQ κ w a (this ▸ hev) (hs.same he' hσ')
  intro fuel
  induction fuel with
  | zero =>
    intro L a w hL hcnt _ hst
    have hnil := List.length_eq_zero_iff.1 hcnt
    have hall : ∀ j, j < ops.size → listed L j = true := by
      intro j hj
      cases hlj : listed L j with
      | true => rfl
      | false =>
        have : j ∈ (List.range ops.size).filter fun i => !listed L i := List.mem_filter.2 ⟨List.mem_range.2 hj, by simp [hlj]⟩
        rw [hnil] at this; simp at this
    refine ⟨?_, hfinal L a w hall hst⟩
    refine List.eq_nil_iff_forall_not_mem.2 fun i hi => ?_
    obtain ⟨h1, h2, _⟩ := hready L hL i hi
    rw [hall i h1] at h2; simp at h2
  | succ fuel ih =>
    intro L a w hL hcnt hdown hst
    refine ⟨fun hnil => ?_, fun i hi => ?_⟩
    · -- some operation is ready
      exfalso
      have : ∃ i, i < ops.size ∧ listed L i = false := by
        cases hf : (List.range ops.size).filter fun i => !listed L i with
        | nil => rw [hf] at hcnt; simp at hcnt
        | cons i r =>
          have : i ∈ (List.range ops.size).filter fun i => !listed L i := by rw [hf]; simp
          simp only [List.mem_filter, List.mem_range, Bool.not_eq_true'] at this
          exact ⟨i, this⟩
      have hmin : ∀ n i, i ≤ n → i < ops.size → listed L i = false → ∃ i, i < ops.size ∧ listed L i = false ∧ ∀ j, j < i → listed L j = true := by
        intro n
        induction n with
        | zero => intro i h0 h1 h2; exact ⟨i, h1, h2, fun j hj => by omega⟩
        | succ n ihn =>
          intro i h0 h1 h2
          by_cases h : ∃ j, j < i ∧ listed L j = false
          · obtain ⟨j, h3, h4⟩ := h; exact ihn j (by omega) (by omega) h4
          · exact ⟨i, h1, h2, fun j hj => by
              cases hlj : listed L j with
              | true => rfl
              | false => exact absurd ⟨j, hj, hlj⟩ h⟩
      obtain ⟨i0, h1, h2⟩ := this
      obtain ⟨i, h1, h2, h3⟩ := hmin i0 i0 (Nat.le_refl _) h1 h2
      have : i ∈ Region.ready .any ops L := by
        simp only [Region.ready, List.mem_filter, List.mem_range, Bool.and_eq_true, Bool.not_eq_true']
        refine ⟨h1, by rw [hgetL L i hL h1]; exact h2, ?_⟩
        rw [Array.getElem?_eq_getElem h1]
        simp only [Option.map_some, Option.getD_some, Array.all_eq_true']
        intro e he
        cases hb : Region.binds .any e with
        | false => rfl
        | true =>
          have := backs_spec hbk i ops[i] (by rw [Array.getElem?_toList]; exact Array.getElem?_eq_getElem h1) e (Array.mem_toList_iff.2 he) hb
          simpa [listed] using h3 e.on (by omega)
      rw [hnil] at this; simp at this
    · obtain ⟨h1, h2, h3⟩ := hready L hL i hi
      have hri : i < rs.length := by omega
      have hr : rs[i]? = some rs[i] := List.getElem?_eq_getElem hri
      generalize rs[i] = r at hr
      obtain ⟨κ, e, σ, hev, hs, he, hσ⟩ := hst
      have hoi : ops[i]? = some ops[i] := Array.getElem?_eq_getElem h1
      -- what stands free
      have hless : ∀ j p, rs[j]? = some p → j < i → listed L j = false → free p r = true := by
        intro j p hp hj hl
        rcases hcs i ops[i] r (by rw [Array.getElem?_toList]; exact hoi) hr j p (by simpa using hp) (by simpa using hj) with h | h
        · exfalso
          simp only [edge, List.any_eq_true, Bool.and_eq_true, Nat.beq_eq] at h
          obtain ⟨ed, hm, rfl, hb⟩ := h
          rw [h3 ops[i] hoi ed hm hb] at hl; simp at hl
        · exact h
      have hmore : ∀ j p, rs[j]? = some p → i < j → listed L j = true → free r p = true := by
        intro j p hp hj hl
        have hjo : j < ops.size := by rw [← hlen]; exact (List.getElem?_eq_some_iff.1 hp).1
        rcases hcs j ops[j] p (by rw [Array.getElem?_toList]; exact Array.getElem?_eq_getElem hjo) hp i r (by simpa using hr) (by simpa using hj) with h | h
        · exfalso
          simp only [edge, List.any_eq_true, Bool.and_eq_true, Nat.beq_eq] at h
          obtain ⟨ed, hm, rfl, hb⟩ := h
          rw [hdown j ops[j] (Array.getElem?_eq_getElem hjo) hl ed hm hb] at h2; simp at h2
        · exact h
      have hdiff : ∀ j, listed L (0 + j) ≠ decide (0 + j < i) → (j < i ∧ listed L j = false) ∨ (i < j ∧ listed L j = true) := by
        intro j hne
        rw [Nat.zero_add] at hne
        by_cases hj : j < i
        · left; refine ⟨hj, ?_⟩
          cases hl : listed L j with
          | false => rfl
          | true => rw [hl] at hne; simp [hj] at hne
        · cases hl : listed L j with
          | false => rw [hl] at hne; simp [hj] at hne
          | true =>
            right; refine ⟨?_, rfl⟩
            have : j ≠ i := by intro e; subst e; rw [hl] at h2; simp at h2
            omega
      have hT : ∀ t ∈ r.T, Env.get e t = Env.get (envD (fun j => decide (j < i)) rs 0 e0) t := by
        intro t ht
        rw [he t]
        refine envD_agree t rs 0 e0 fun j p hp hne hd => ?_
        rcases hdiff j hne with ⟨hj, hl⟩ | ⟨hj, hl⟩
        · have := hless j p hp hj hl
          simp only [free, Bool.and_eq_true] at this
          have := this.1.1.1
          rw [hd] at this; simp [notIn] at this; exact this ht
        · have := hmore j p hp hj hl
          simp only [free, Bool.and_eq_true] at this
          have := this.1.1.2
          rw [hd] at this; simp [notIn] at this; exact this ht
      have dis : ∀ {a b : List Nat} {x : Nat}, disjoint a b = true → x ∈ a → x ∉ b := by
        intro a b x h hx hb
        simp only [disjoint, List.all_eq_true] at h
        have := h x hx; simp at this; exact this hb
      have hF : ∀ id, id ∈ r.F ∨ id ∈ r.ws → σ[id]? = (stD (fun j => decide (j < i)) rs 0 σ0)[id]? := by
        intro id hid
        rw [hσ id]
        refine stD_agree id rs 0 σ0 fun j p hp hne hw => ?_
        rcases hdiff j hne with ⟨hj, hl⟩ | ⟨hj, hl⟩
        · have := hless j p hp hj hl
          simp only [free, Bool.and_eq_true] at this
          rcases hid with h | h
          · exact dis this.2.1.1 hw h
          · exact dis this.2.1.2 hw h
        · have := hmore j p hp hj hl
          simp only [free, Bool.and_eq_true] at this
          rcases hid with h | h
          · exact dis this.2.2 hw h
          · exact dis this.2.1.2 h hw
      have hsz : σ.length = (stD (fun j => decide (j < i)) rs 0 σ0).length := by
        rw [stD_length]
        have : σ = stD (listed L) rs 0 σ0 := List.ext_getElem? hσ
        rw [this, stD_length]
      refine hval i r hr e σ hT hF hsz Q _ κ w a hs fun κ' w' a' hev' hs' => ?_
      have hset : ∀ j, listed (L.setIfInBounds i true) j = if i = j then true else listed L j := by
        intro j
        simp only [listed]
        by_cases h : i = j
        · subst h; simp [show i < L.size by omega]
        · simp [h, Array.getElem?_setIfInBounds_ne h]
      refine ih _ a' w' (by simpa using hL) ?_ ?_ ⟨κ', _, _, hev.trans hev', hs', fun t => ?_, fun id => ?_⟩
      · have key : ∀ (l : List Nat), l.Nodup → i ∈ l → (l.filter fun j => !listed L j).length = (l.filter fun j => !listed (L.setIfInBounds i true) j).length + 1 := by
          intro l
          induction l with
          | nil => intro _ h; simp at h
          | cons x l ihl =>
            intro hnd hm
            rw [List.nodup_cons] at hnd
            by_cases hx : i = x
            · subst hx
              have hsame : (l.filter fun j => !listed L j) = l.filter fun j => !listed (L.setIfInBounds i true) j := by
                apply List.filter_congr
                intro j hj
                rw [hset, if_neg (by intro e; subst e; exact hnd.1 hj)]
              simp only [List.filter_cons, h2, Bool.not_false, if_true, hset, Bool.not_true, Bool.false_eq_true, if_false, List.length_cons]
              rw [hsame]
              simp only [hset]
            · have hm' : i ∈ l := (List.mem_cons.1 hm).resolve_left hx
              simp only [List.filter_cons, hset, if_neg hx]
              have := ihl hnd.2 hm'
              simp only [hset] at this
              split
              · simp only [List.length_cons]; rw [this]
              · exact this
        have := key (List.range ops.size) List.nodup_range (List.mem_range.2 h1)
        omega
      · intro j o ho hl ed hm hb
        rw [hset] at hl ⊢
        split
        · rfl
        · split at hl
          · rename_i hij; subst hij; exact h3 o ho ed hm hb
          · exact hdown j o ho hl ed hm hb
      · simp only [Rec.env, put_get]
        rw [envD_more hset h2 rs 0 e0 (Nat.zero_le _) (by simpa using hr) fun j p hp hgt hl => ?_, ← he t]
        have := hmore j p hp (by omega) (by simpa using hl)
        simp only [free, Bool.and_eq_true] at this
        have := this.1.2
        revert this
        cases r.dst with
        | none => cases p.dst <;> simp [otherDst]
        | some x =>
          cases p.dst with
          | none => simp [otherDst]
          | some y =>
            by_cases hxy : x = y
            · subst hxy
              intro h1
              rw [show otherDst (some x) (some x) = false from by simp [otherDst, Nat.beq_refl]] at h1
              simp at h1
            · intro h1
              have h2 : Nat.beq y x = false := by
                cases h3 : Nat.beq y x with
                | false => rfl
                | true => exact absurd (Nat.eq_of_beq_eq_true h3).symm hxy
              simp [otherDst, h2]
      · rw [stD_more hset h2 rs 0 σ0 (Nat.zero_le _) (by simpa using hr) (fun j p hp hgt hl => ?_) (fun _ _ _ _ _ => trivial)]
        · refine upd_congr ?_ (hσ id)
          rw [stD_length]
          have : σ = stD (listed L) rs 0 σ0 := List.ext_getElem? hσ
          rw [this, stD_length]
        · have := hmore j p hp (by omega) (by simpa using hl)
          simp only [free, Bool.and_eq_true] at this
          exact this.2.1.2
end
end Go.Am
