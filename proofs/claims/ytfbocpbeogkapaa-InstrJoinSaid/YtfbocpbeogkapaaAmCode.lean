/- The abstract machine: code. A judgement on code (W), its rules; the judgement on a region's operations (WO) in the order of the text. -/
import Derived.Test.YtfbocpbeogkapaaAmCore
set_option linter.unusedVariables false
set_option linter.unusedSimpArgs false
namespace Go.Am

inductive Ex where
  | normal
  | exit (id : Nat)
  | ret
  deriving DecidableEq
def Ex.to : Ex → Exit
  | .normal => .normal
  | .exit id => .exit id
  | .ret => .ret

/-- the state here and there -/
structure SR (N : Nat) (κ : K) (w : World) (e : Env) (σ : St) (a : Act) : Prop where
  env : ∀ t v, Env.get e t = some v → ∃ x, a.tmps[t]? = some x ∧ RV κ w v x ∧ v.under (alive σ) = true
  rs : RS κ w σ
  defers : a.defers = []
  size : N ≤ a.tmps.size

/-- code, begun in a state, ends in one of which Q holds -/
def W (C : Cx) (c : Code) (e : Env) (σ : St) (Q : Ex → Env → St → Prop) : Prop :=
  ∀ κ w a, SR C.n κ w e σ a → c.wp C.P (fun x a' w' => ∃ ex e' σ' κ', x = Ex.to ex ∧ Q ex e' σ' ∧ Evo κ w σ κ' w' σ' ∧ SR C.n κ' w' e' σ' a') a w

theorem ev_sound {N κ w e σ a} (h : SR N κ w e σ a) {x : Operand} {v : V} (hv : ev e x = some v) : RV κ w v (a.eval x) ∧ v.under (alive σ) = true := by
  cases x with
  | tmp t =>
    obtain ⟨y, h1, h2, h3⟩ := h.env t v hv
    have : a.eval (.tmp t) = y := by simp [Act.eval, h1]
    rw [this]; exact ⟨h2, h3⟩
  | const c =>
    obtain ⟨h1, h2⟩ := ofValue_sound (κ := κ) (w := w) hv
    exact ⟨h1, h2 _⟩
  | global g => simp [ev] at hv
  | func f =>
    simp only [ev, Option.some.injEq] at hv; subst hv
    exact ⟨.one _ _ (.fn _ _ _ _ _ rfl rfl (fun i c h => by simp at h) (fun i c h => by simp at h)), rfl⟩

theorem Env.get_set (e : Env) (t : Nat) (v : V) (s : Nat) : Env.get (Env.set e t v) s = if s = t then some v else Env.get e s := by
  simp only [Env.set, Env.get]
  by_cases h : s = t
  · subst h; simp
  · have : Nat.beq t s = false := by rw [Bool.eq_false_iff]; intro hb; exact h (Nat.eq_of_beq_eq_true hb).symm
    simp [h, this]

theorem SR.put {N κ w e σ a κ' w' σ'} (h : SR N κ w e σ a) (hs : Stays κ w κ' w' (alive σ)) (hl : ∀ id, alive σ id = true → alive σ' id = true) (hR : RS κ' w' σ') {dst : Option Nat} {v : V} {x : Value}
    (hv : RV κ' w' v x) (hu : v.under (alive σ') = true) (hd : ∀ t, dst = some t → t < N) : SR N κ' w' (Env.put e dst v) σ' (a.put dst x) := by
  refine ⟨fun t u ht => ?_, hR, ?_, ?_⟩
  · cases dst with
    | none =>
      obtain ⟨y, h1, h2, h3⟩ := h.env t u ht
      exact ⟨y, h1, h2.stays hs h3, V.under_mono hl h3⟩
    | some d =>
      simp only [Env.put, Env.get_set] at ht
      simp only [Act.put]
      split at ht
      · rename_i heq; subst heq
        injection ht with ht; subst ht
        exact ⟨x, by simp [Nat.lt_of_lt_of_le (hd t rfl) h.size], hv, hu⟩
      · rename_i hne
        obtain ⟨y, h1, h2, h3⟩ := h.env t u ht
        exact ⟨y, by rw [Array.getElem?_setIfInBounds_ne (fun e => hne e.symm)]; exact h1, h2.stays hs h3, V.under_mono hl h3⟩
  · cases dst <;> exact h.defers
  · cases dst <;> simpa [Act.put] using h.size

section
variable {C : Cx} {e : Env} {σ : St} {Q : Ex → Env → St → Prop}

theorem W.mono {c : Code} {Q' : Ex → Env → St → Prop} (h : W C c e σ Q) (hq : ∀ ex e σ, Q ex e σ → Q' ex e σ) : W C c e σ Q' :=
  fun κ w a hs => wp_mono (h κ w a hs) fun _ _ _ ⟨ex, e', σ', κ', h1, h2, h3⟩ => ⟨ex, e', σ', κ', h1, hq _ _ _ h2, h3⟩

theorem W.skip (h : Q .normal e σ) : W C .skip e σ Q := fun κ w a hs => wp_skip ⟨.normal, e, σ, κ, rfl, h, .refl, hs⟩
theorem W.ret (h : Q .ret e σ) : W C .ret e σ Q := fun κ w a hs => wp_ret ⟨.ret, e, σ, κ, rfl, h, .refl, hs⟩
theorem W.exit {id : Nat} (h : Q (.exit id) e σ) : W C (.exit id) e σ Q := fun κ w a hs => wp_exit ⟨.exit id, e, σ, κ, rfl, h, .refl, hs⟩

/-- what follows behind a piece of code -/
def next (C : Cx) (b : Code) (Q : Ex → Env → St → Prop) : Ex → Env → St → Prop
  | .normal, e, σ => W C b e σ Q
  | .exit id, e, σ => Q (.exit id) e σ
  | .ret, e, σ => Q .ret e σ

theorem W.later {κ w κ' w' σ' e' a' c} (hev : Evo κ w σ κ' w' σ') (h : W C c e' σ' Q) (hs : SR C.n κ' w' e' σ' a') :
    c.wp C.P (fun x a'' w'' => ∃ ex e'' σ'' κ'', x = Ex.to ex ∧ Q ex e'' σ'' ∧ Evo κ w σ κ'' w'' σ'' ∧ SR C.n κ'' w'' e'' σ'' a'') a' w' := by
  exact wp_mono (h κ' w' a' hs) fun _ _ _ ⟨ex, e'', σ'', κ'', h1, h2, h3, h4⟩ => ⟨ex, e'', σ'', κ'', h1, h2, hev.trans h3, h4⟩

theorem W.seq {x y : Code} (h : W C x e σ (next C y Q)) : W C (.seq x y) e σ Q := by
  intro κ w a hs
  refine wp_seq (wp_mono (h κ w a hs) fun x' a' w' hx => ?_)
  obtain ⟨ex, e', σ', κ', rfl, hq, hev, hs'⟩ := hx
  cases ex with
  | normal => exact W.later hev hq hs'
  | exit id => exact ⟨.exit id, e', σ', κ', rfl, hq, hev, hs'⟩
  | ret => exact ⟨.ret, e', σ', κ', rfl, hq, hev, hs'⟩

theorem W.cond {c : Operand} {x y : Code} {t : Bool} (hc : ev e c = some (bool t)) (h : W C (bif t then x else y) e σ Q) : W C (.cond c x y) e σ Q := by
  intro κ w a hs
  obtain ⟨hv, _⟩ := ev_sound hs hc
  have : a.eval c = .bool t := by
    generalize hy : a.eval c = z at hv
    cases hv with | one _ _ h => cases h with | d _ _ hd => cases hd with | sc _ _ => rfl
  refine wp_cond this ?_
  cases t <;> exact h κ w a hs

/-- out of a block -/
def leave (id : Nat) (Q : Ex → Env → St → Prop) : Ex → Env → St → Prop
  | .normal, e, σ => Q .normal e σ
  | .exit i, e, σ => bif Nat.beq i id then Q .normal e σ else Q (.exit i) e σ
  | .ret, e, σ => Q .ret e σ

theorem W.block {id : Nat} {c : Code} (h : W C c e σ (leave id Q)) : W C (.block id c) e σ Q := by
  intro κ w a hs
  refine wp_block (wp_mono (h κ w a hs) fun x' a' w' hx => ?_)
  obtain ⟨ex, e', σ', κ', rfl, hq, hev, hs'⟩ := hx
  cases ex with
  | normal => exact ⟨.normal, e', σ', κ', rfl, hq, hev, hs'⟩
  | ret => exact ⟨.ret, e', σ', κ', rfl, hq, hev, hs'⟩
  | exit i =>
    simp only [Ex.to, Exit.inBlock]
    simp only [leave] at hq
    cases hb : Nat.beq i id with
    | true =>
      rw [hb] at hq; simp only [cond_true] at hq
      have := Nat.eq_of_beq_eq_true hb
      rw [if_pos this]
      exact ⟨.normal, e', σ', κ', rfl, hq, hev, hs'⟩
    | false =>
      rw [hb] at hq; simp only [cond_false] at hq
      rw [if_neg (fun e => by subst e; simp at hb)]
      exact ⟨.exit i, e', σ', κ', rfl, hq, hev, hs'⟩

/-! less is known -/
def Sub (e' e : Env) : Prop := ∀ t v, Env.get e' t = some v → Env.get e t = some v
theorem SR.sub {N κ w a} {e' : Env} (h : SR N κ w e σ a) (hs : Sub e' e) : SR N κ w e' σ a := ⟨fun t v ht => h.env t v (hs t v ht), h.rs, h.defers, h.size⟩
theorem W.sub {c : Code} {e' : Env} (hs : Sub e' e) (h : W C c e' σ Q) : W C c e σ Q := fun κ w a hr => h κ w a (hr.sub hs)
def keep (l : List Nat) : Env → Env
  | [] => []
  | (t, v) :: r => bif l.elem t then (t, v) :: keep l r else keep l r
theorem keep_sub (l : List Nat) : ∀ e : Env, (∀ t v, Env.get (keep l e) t = some v → t ∈ l ∧ ∃ v', Env.get e t = some v') ∧ ∀ t, t ∈ l → Env.get (keep l e) t = Env.get e t
  | [] => ⟨fun t v h => by simp [keep, Env.get] at h, fun t _ => rfl⟩
  | (s, x) :: r => by
    obtain ⟨h1, h2⟩ := keep_sub l r
    refine ⟨fun t v h => ?_, fun t ht => ?_⟩
    · simp only [keep] at h
      cases he : l.elem s with
      | true =>
        rw [he] at h; simp only [cond_true, Env.get] at h ⊢
        cases hb : Nat.beq s t with
        | true =>
          have := Nat.eq_of_beq_eq_true hb
          subst this
          exact ⟨by simpa using he, x, rfl⟩
        | false => rw [hb] at h; simp only [cond_false] at h ⊢; exact h1 t v h
      | false =>
        rw [he] at h; simp only [cond_false, Env.get] at h ⊢
        obtain ⟨h3, v', h4⟩ := h1 t v h
        refine ⟨h3, ?_⟩
        cases hb : Nat.beq s t with
        | true => exact ⟨x, rfl⟩
        | false => exact ⟨v', h4⟩
    · simp only [keep]
      cases he : l.elem s with
      | true =>
        simp only [cond_true, Env.get]
        cases Nat.beq s t <;> simp [h2 t ht]
      | false =>
        simp only [cond_false, Env.get]
        have : Nat.beq s t = false := by
          rw [Bool.eq_false_iff]; intro hb
          have := Nat.eq_of_beq_eq_true hb
          subst this
          simp [ht] at he
        rw [this]; simpa using h2 t ht
theorem Sub.keep (l : List Nat) (e : Env) : Sub (keep l e) e := fun t v h => by
  obtain ⟨h1, h2⟩ := keep_sub l e
  rw [← h2 t (h1 t v h).1]; exact h
theorem W.forget {c : Code} (l : List Nat) (h : W C c (Am.keep l e) σ Q) : W C c e σ Q := W.sub (Sub.keep l e) h

/-! objects that nothing names any more -/
def trims (n : Nat) (e : Env) (σ : St) : Bool := (e.all fun p => p.2.under (alive (σ.take n))) && (σ.take n).all fun o => o.under (alive (σ.take n))

theorem alive_take {n id : Nat} (h : alive (σ.take n) id = true) : alive σ id = true := by
  obtain ⟨o, h1, h2⟩ := alive_iff.1 h
  rw [List.getElem?_take] at h1
  split at h1
  · exact alive_iff.2 ⟨o, h1, h2⟩
  · simp at h1

theorem RS.take {κ w} {n : Nat} (h : RS κ w σ) (ht : ((σ.take n).all fun o => o.under (alive (σ.take n))) = true) : RS κ w (σ.take n) := by
  have hget : ∀ id o, (σ.take n)[id]? = some o → σ[id]? = some o := fun id o ho => by
    rw [List.getElem?_take] at ho; split at ho
    · exact ho
    · simp at ho
  refine ⟨fun id o ho => h.obj id o (hget id o ho), fun id id' o o' b h1 h2 => h.inj id id' o o' b (hget _ _ h1) (hget _ _ h2), fun id o ho => ?_, h.inside⟩
  simp only [List.all_eq_true] at ht
  exact ht o (List.mem_of_getElem? ho)

theorem Evo.take {κ w σ0 κ' w'} {n : Nat} (h : Evo κ w σ0 κ' w' σ) (hn : σ0.length ≤ n) : Evo κ w σ0 κ' w' (σ.take n) where
  S := h.S
  keep := h.keep
  at_ := h.at_
  sl := h.sl
  live id hid := by
    obtain ⟨o, h1, h2⟩ := alive_iff.1 (h.live id hid)
    have : id < σ0.length := by
      obtain ⟨o', h3, _⟩ := alive_iff.1 hid
      exact (List.getElem?_eq_some_iff.1 h3).1
    exact alive_iff.2 ⟨o, by rw [List.getElem?_take, if_pos (by omega)]; exact h1, h2⟩
  fresh := h.fresh
  frame := h.frame
  owned b hb := by
    obtain ⟨id, o, h1, h2⟩ := hb
    refine h.owned b ⟨id, o, ?_, h2⟩
    rw [List.getElem?_take] at h1; split at h1
    · exact h1
    · simp at h1
  size := h.size
  os := h.os
  tape := h.tape
  output := h.output
  len := by rw [List.length_take]; exact Nat.le_min.2 ⟨hn, h.len⟩

theorem env_under {e : Env} {L : Nat → Bool} (h : (e.all fun p => p.2.under L) = true) {t : Nat} {v : V} (hg : Env.get e t = some v) : v.under L = true := by
  induction e with
  | nil => simp [Env.get] at hg
  | cons p r ih =>
    obtain ⟨s, x⟩ := p
    simp only [List.all_cons, Bool.and_eq_true] at h
    simp only [Env.get] at hg
    cases hb : Nat.beq s t with
    | true => rw [hb] at hg; simp only [cond_true, Option.some.injEq] at hg; subst hg; exact h.1
    | false => rw [hb] at hg; exact ih h.2 hg

theorem SR.take {κ w a} {n : Nat} (h : SR C.n κ w e σ a) (ht : trims n e σ = true) : SR C.n κ w e (σ.take n) a := by
  simp only [trims, Bool.and_eq_true] at ht
  exact ⟨fun t v hv => by
    obtain ⟨x, h1, h2, _⟩ := h.env t v hv
    exact ⟨x, h1, h2, env_under ht.1 hv⟩, h.rs.take ht.2, h.defers, h.size⟩

/-- a loop: I n: what holds at a round's head, n more rounds at most; behind a round what is not needed is forgotten -/
def round (n : Nat) (I : Nat → Env → St → Prop) (k : Nat) (l : List Nat) (Q : Ex → Env → St → Prop) : Ex → Env → St → Prop
  | .normal, e, σ => ∃ m, m < n ∧ I m (keep l e) (σ.take k) ∧ trims k (keep l e) σ = true
  | .exit id, e, σ => Q (.exit id) e σ
  | .ret, e, σ => Q .ret e σ

theorem W.loop {c : Code} (l : List Nat) (k : Nat) (I : Nat → Env → St → Prop) {n : Nat} (hk : σ.length = k) (h0 : I n (Am.keep l e) σ)
    (hr : ∀ n e σ, I n e σ → σ.length = k → W C c e σ (round n I k l Q)) : W C (.loop c) e σ Q := by
  intro κ0 w0 a0 hs0
  let J : Nat → Act → World → Prop := fun n a w => ∃ κ e' σ', I n e' σ' ∧ σ'.length = k ∧ Evo κ0 w0 σ κ w σ' ∧ SR C.n κ w e' σ' a
  have hmin : ∀ a w, (∃ n, J n a w) → ∃ n, J n a w ∧ ∀ m, J m a w → n ≤ m := by
    intro a w ⟨n, hn⟩
    induction n using Nat.strongRecOn with
    | _ n ih =>
      by_cases h : ∃ m, m < n ∧ J m a w
      · obtain ⟨m, h1, h2⟩ := h; exact ih m h1 h2
      · exact ⟨n, hn, fun m hm => Nat.le_of_not_lt fun hlt => h ⟨m, hlt, hm⟩⟩
  let μ : Act → World → Nat := fun a w => open Classical in if h : ∃ n, J n a w then (hmin a w h).choose else 0
  have hμ : ∀ a w (h : ∃ n, J n a w), J (μ a w) a w ∧ ∀ m, J m a w → μ a w ≤ m := by
    intro a w h
    have : μ a w = (hmin a w h).choose := by simp only [μ]; rw [dif_pos h]
    rw [this]; exact (hmin a w h).choose_spec
  refine wp_loop (fun a w => ∃ n, J n a w) μ ⟨n, κ0, Am.keep l e, σ, h0, hk, .refl, hs0.sub (Sub.keep l e)⟩ ?_
  intro a w hI
  obtain ⟨⟨κ, e', σ', hi, hkl, hev, hs⟩, _⟩ := hμ a w hI
  refine wp_mono (hr _ e' σ' hi hkl κ w a hs) fun x a' w' hx => ?_
  obtain ⟨ex, e'', σ'', κ', rfl, hq, hev', hs'⟩ := hx
  cases ex with
  | exit id => exact ⟨.exit id, e'', σ'', κ', rfl, hq, hev.trans hev', hs'⟩
  | ret => exact ⟨.ret, e'', σ'', κ', rfl, hq, hev.trans hev', hs'⟩
  | normal =>
    obtain ⟨m, hm, hI', ht⟩ := hq
    have hev2 := hev.trans hev'
    have hlen : k ≤ σ''.length := by have := hev'.len; omega
    have hJ : J m a' w' := ⟨κ', Am.keep l e'', σ''.take k, hI', by simp; omega, hev2.take (by omega), (hs'.sub (Sub.keep l e'')).take ht⟩
    exact ⟨⟨m, hJ⟩, Nat.lt_of_le_of_lt ((hμ a' w' ⟨m, hJ⟩).2 m hJ) hm⟩
end
end Go.Am
