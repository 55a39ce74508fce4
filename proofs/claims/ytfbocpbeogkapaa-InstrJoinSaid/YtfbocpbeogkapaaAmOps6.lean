/- The abstract machine: soundness of maps. -/
import Derived.Test.YtfbocpbeogkapaaAmOps5
set_option linter.unusedVariables false
set_option linter.unusedSimpArgs false
namespace Go.Am

section
variable {P : Program} {T : Tab} {κ : K} {w : World} {σ : St} {look : Look}

/-- entries here and there -/
def Ents (κ : K) (w : World) (es : List (Value × FV)) (l : List MapEntry) : Prop :=
  l.length = es.length ∧ ∀ (i : Nat) (k : Value) (x : FV), es[i]? = some (k, x) → ∃ e, l[i]? = some e ∧ e.key = k ∧ RF κ w x e.val

theorem fits_und {t : TypeId} {k : Value} (h : keyFits T t k = true) : ∃ d, T.und t = some d ∧ ((∃ i, d = .int i) ∧ (∃ i n, k = .int i n) ∨ d = .string ∧ ∃ s, k = .string s) := by
  unfold keyFits at h
  split at h
  · rename_i a b c hd; exact ⟨_, hd, .inl ⟨⟨_, rfl⟩, _, _, rfl⟩⟩
  · rename_i a hd; exact ⟨_, hd, .inr ⟨rfl, _, rfl⟩⟩
  · simp at h

theorem same_now {d : TypeDesc} {k k' : Value} (hd : (∃ i, d = .int i) ∧ (∃ i n, k = .int i n) ∨ d = .string ∧ ∃ s, k = .string s) {b : Bool} (h : keyEq k k' = some b) :
    Instr.sameNow d k k' = some b := by
  rcases hd with ⟨⟨i, rfl⟩, j, n, rfl⟩ | ⟨rfl, s, rfl⟩
  · cases k' <;> simp only [keyEq, reduceCtorEq] at h
    rename_i j' n'
    cases hj : decide (j = j') with
    | false => rw [hj] at h; simp at h
    | true =>
      rw [hj] at h; simp only [cond_true, Option.some.injEq] at h; subst h
      simp [Instr.sameNow, of_decide_eq_true hj]
  · cases k' <;> simp only [keyEq, reduceCtorEq, Option.some.injEq] at h
    subst h; rfl

theorem find_sound {d : TypeDesc} {k : Value} (hd : (∃ i, d = .int i) ∧ (∃ i n, k = .int i n) ∨ d = .string ∧ ∃ s, k = .string s) :
    ∀ (es : List (Value × FV)) (l : List MapEntry) (i : Nat) (r : Option (Nat × FV)), Ents κ w es l → findKey k es i = some r →
      (r = none ∧ Instr.findNow d k l i = some none) ∨ ∃ j x e, r = some (i + j, x) ∧ es[j]? = some (e.key, x) ∧ l[j]? = some e ∧ keyEq k e.key = some true ∧ RF κ w x e.val ∧ Instr.findNow d k l i = some (some (i + j, e.val))
  | [], l, i, r, he, h => by
    simp only [findKey, Option.some.injEq] at h; subst h
    have : l = [] := List.length_eq_zero_iff.1 he.1
    subst this; exact .inl ⟨rfl, rfl⟩
  | (k', x) :: es, l, i, r, he, h => by
    obtain ⟨e, he1, he2, he3⟩ := he.2 0 k' x rfl
    cases l with
    | nil => simp at he1
    | cons e' l =>
      simp at he1; subst he1
      simp only [findKey] at h
      cases hk : keyEq k k' with
      | none => simp [hk] at h
      | some b =>
      have hs := same_now hd (k' := e'.key) (b := b) (by rw [he2]; exact hk)
      cases b with
      | true =>
        simp only [hk, Option.some.injEq] at h; subst h
        refine .inr ⟨0, x, e', rfl, by rw [he2]; rfl, rfl, by rw [he2]; exact hk, he3, ?_⟩
        simp [Instr.findNow, hs]
      | false =>
        simp only [hk] at h
        have he' : Ents κ w es l := ⟨by have := he.1; simpa using this, fun j k x hj => by simpa using he.2 (j + 1) k x (by simpa using hj)⟩
        have hnow : Instr.findNow d k (e' :: l) i = Instr.findNow d k l (i + 1) := by simp [Instr.findNow, hs]
        rcases find_sound hd es l (i + 1) r he' h with ⟨h1, h2⟩ | ⟨j, x', e, h1, h2, h3, h4, h5, h6⟩
        · exact .inl ⟨h1, by rw [hnow]; exact h2⟩
        · refine .inr ⟨j + 1, x', e, ?_, by simpa using h2, by simpa using h3, h4, h5, ?_⟩
          · rw [h1]; congr 2; omega
          · rw [hnow, h6]; congr 3; omega

theorem run_checkKey (hT : T.fits P) {t : TypeId} {d : TypeDesc} {k : Value} (hu : T.und t = some d) (hd : (∃ i, d = .int i) ∧ (∃ i n, k = .int i n) ∨ d = .string ∧ ∃ s, k = .string s) (b : Bool) :
    (Instr.checkKey b 10000 t k).run P w = .ok () w := by
  show (Instr.checkKey b (9999 + 1) t k).run P w = _
  unfold Instr.checkKey
  rw [run_bind (run_underlying hT hu)]
  rcases hd with ⟨⟨i, rfl⟩, j, n, rfl⟩ | ⟨rfl, s, rfl⟩ <;> rfl
theorem run_findKey (hT : T.fits P) {t : TypeId} {d : TypeDesc} {k : Value} (hu : T.und t = some d) {l : List MapEntry} {r : Option (Nat × Value)} (h : Instr.findNow d k l 0 = some r) :
    (Instr.findKey t k l).run P w = .ok r w := by
  unfold Instr.findKey
  rw [run_bind (run_underlying hT hu), h]; rfl

theorem entries_sound (hR : RS κ w σ) (hl : Sees σ look) {t : TypeId} {m k : V} {ym yk : Value} {id : Nat} {es : List (Value × FV)} {kk : Value} {et : TypeId}
    (h : entriesOf T t m k look = some (id, es, kk, et)) (hm : RV κ w m ym) (hk : RV κ w k yk) :
    ∃ kt d b ents clock, T.und t = some (.map kt et) ∧ T.und kt = some d ∧ ((∃ i, d = .int i) ∧ (∃ i n, kk = .int i n) ∨ d = .string ∧ ∃ s, kk = .string s) ∧ yk = kk ∧
      ym = .map (some b) ∧ σ[id]? = some (.map es) ∧ κ.at_ id = some b ∧ w.heap[b]? = some (.map ents clock) ∧ Ents κ w es ents.toList ∧ (∀ o, ¬ κ.S b o) := by
  unfold entriesOf at h
  split at h
  case h_2 => simp at h
  rename_i kt et' hu
  split at h
  case h_2 => simp at h
  rename_i id' k'
  split at h
  case h_2 => simp at h
  rename_i es' ho
  cases hf : keyFits T kt k' with
  | false => rw [hf] at h; simp at h
  | true =>
  rw [hf] at h; simp only [cond_true, Option.some.injEq, Prod.mk.injEq] at h
  obtain ⟨rfl, rfl, rfl, rfl⟩ := h
  obtain ⟨d, hd, hdk⟩ := fits_und hf
  cases hm with | one _ _ hc => cases hc with | map _ b hb =>
  cases hk with | one _ _ hc => cases hc with | d _ _ hd' => cases hd' with | sc _ _ =>
  have ho' := hl _ _ ho
  obtain ⟨b', ents, clock, h1, h2, h3, h4, h5⟩ := hR.obj _ _ ho'
  rw [hb] at h1; injection h1 with h1; subst h1
  exact ⟨kt, d, b, ents, clock, hu, hd, hdk, rfl, rfl, ho', hb, h2, ⟨by simpa using h3, fun i k x hi => by
    obtain ⟨e, he1, he2, he3⟩ := h5 i k x hi
    exact ⟨e, by rw [Array.getElem?_toList]; exact he1, he2, he3⟩⟩, h4⟩

theorem run_getObj {b : Nat} {ents : Array MapEntry} {clock : Nat} (h : w.heap[b]? = some (.map ents clock)) : (getObj b).run P w = .ok (.map ents clock) w := by
  simp [getObj, Sem.run, h]
theorem run_setObj {b : Nat} {ents : Array MapEntry} {clock : Nat} (o : Obj) (h : w.heap[b]? = some (.map ents clock)) : (setObj b o).run P w = .ok () (put w b o) := by
  simp [setObj, Sem.run, h, put]

theorem lookup_sound (hT : T.fits P) (hR : RS κ w σ) (hl : Sees σ look) {t : TypeId} {m k v : V} {ym yk : Value} {ok : Bool} (h : lookupOf T t m k ok look = some v)
    (hm : RV κ w m ym) (hk : RV κ w k yk) : ∃ z, (Instr.lookup t ym yk ok).run P w = .ok z w ∧ RV κ w v z ∧ v.under (alive σ) = true := by
  unfold lookupOf at h
  split at h
  case h_2 => simp at h
  rename_i id es kk et he
  obtain ⟨kt, d, b, ents, clock, hu, hd, hdk, rfl, rfl, ho, hb, hh, hents, _⟩ := entries_sound hR hl he hm hk
  cases hf : findKey yk es 0 with
  | none => simp [hf] at h
  | some r =>
  simp only [hf] at h
  have hrun : ∀ (r' : Option (Nat × Value)) (z : Value) (fnd : Bool), Instr.findNow d yk ents.toList 0 = some r' →
      (match r' with | some (_, v) => (pure (v, true) : Sem (Value × Bool)) | none => do pure (← zeroValue et, false)).run P w = .ok (z, fnd) w →
      (Instr.lookup t (.map (some b)) yk ok).run P w = .ok (if ok then .tuple #[z, .bool fnd] else z) w := by
    intro r' z fnd hr' hz
    unfold Instr.lookup
    rw [run_bind (run_underlying hT hu)]
    simp only
    rw [run_bind (run_getObj hh)]
    simp only
    refine (run_bind (a := ents) (w' := w) rfl).trans ?_
    rw [run_bind (run_checkKey hT hd hdk _), run_bind (run_findKey hT hd hr')]
    cases r' with
    | none =>
      simp only at hz ⊢
      rw [Sem.run_bind] at hz
      rw [Sem.run_bind]
      cases hzz : (zeroValue et).run P w with
      | halt a b => rw [hzz] at hz; simp [Result.andThen] at hz
      | ok a b =>
        rw [hzz] at hz
        simp only [Result.andThen] at hz ⊢
        have hz' : a = z ∧ false = fnd ∧ b = w := by
          simp only [pure, Sem.run] at hz; injection hz with h1 h2; injection h1 with h1 h3; exact ⟨h1, h3, h2⟩
        obtain ⟨rfl, rfl, rfl⟩ := hz'
        rfl
    | some p =>
      obtain ⟨i, v⟩ := p
      simp only at hz ⊢
      have hz' : v = z ∧ true = fnd := by
        simp only [pure, Sem.run] at hz; injection hz with h1 h2; injection h1 with h1 h3; exact ⟨h1, h3⟩
      obtain ⟨rfl, rfl⟩ := hz'
      rfl
  rcases find_sound hdk es ents.toList 0 r hents hf with ⟨rfl, hnow⟩ | ⟨j, x, e, rfl, hej, _, _, hrf, hnow⟩
  · simp only at h
    cases hz : T.zero et with
    | none => simp [hz] at h
    | some z =>
    simp only [hz] at h
    cases hff : ofValueF z with
    | none => simp [hff] at h
    | some f =>
    simp only [hff, Option.some.injEq] at h; subst h
    obtain ⟨h1, h2⟩ := ofValueF_sound (κ := κ) (w := w) hff
    refine ⟨_, hrun none z false hnow (by rw [run_bind (run_zeroValue hT hz)]; rfl), ?_, ?_⟩
    · cases ok with
      | true => exact RV.pair h1 false
      | false => exact h1.toV
    · cases ok with
      | true => exact under_pair (h2 _) false
      | false => exact (FV.v_under).trans (h2 _)
  · simp only [Option.some.injEq] at h; subst h
    have hxu : x.under (alive σ) = true := by
      have := hR.inner _ _ ho
      simp only [Ob.under, List.all_eq_true] at this
      exact this (e.key, x) (List.mem_of_getElem? hej)
    refine ⟨_, hrun _ e.val true hnow rfl, ?_, ?_⟩
    · cases ok with
      | true => exact RV.pair hrf true
      | false => exact hrf.toV
    · cases ok with
      | true => exact under_pair hxu true
      | false => exact (FV.v_under).trans hxu

/-- a map's block is written -/
theorem map_put (hR : RS κ w σ) {id b : Nat} {es es' : List (Value × FV)} {ents ents' : Array MapEntry} {clock clock' : Nat} (ho : σ[id]? = some (.map es)) (hb : κ.at_ id = some b)
    (hh : w.heap[b]? = some (.map ents clock)) (hnS : ∀ o, ¬ κ.S b o) (h : Ents κ w es' ents'.toList) (hu : ∀ x ∈ es', x.2.under (alive σ) = true) :
    Evo κ w σ κ (put w b (.map ents' clock')) (σ.set id (.map es')) ∧ RS κ (put w b (.map ents' clock')) (σ.set id (.map es')) := by
  have hK : ∀ b' o, κ.S b' o → cellAt (put w b (.map ents' clock')) b' o = cellAt w b' o := fun b' o hs =>
    cell_of_heap (put_other (fun e => by subst e; exact hnS o hs)) o
  have hs : Stays κ w κ (put w b (.map ents' clock')) (alive σ) := ⟨fun _ _ h => h, hK, fun _ _ => rfl, fun _ _ _ _ _ h => h⟩
  exact RS.update (κ' := κ) (w' := put w b (.map ents' clock')) hR (o1 := .map es') (B := b) ho (.inl (by simpa [blockOf] using hb))
    (fun _ _ h => h) hK (fun _ _ => rfl) (fun _ _ _ _ _ h => h) (fun _ _ _ _ _ => rfl) (fun _ _ h => .inl h) (fun b' _ hne => put_other hne) (by rw [put_size]; exact Nat.le_refl _)
    (fun o hs => absurd hs (hnS o)) rfl rfl rfl (by simp)
    ⟨b, ents', clock', hb, put_same hh, by have := h.1; simpa using this, hnS, fun i k x hi => by
      obtain ⟨e, h1, h2, h3⟩ := h.2 i k x hi
      exact ⟨e, by rw [← Array.getElem?_toList]; exact h1, h2, h3.stays hs (hu (k, x) (List.mem_of_getElem? hi))⟩⟩
    (fun b' h => by simp only [blockOf] at h; rw [hb] at h; injection h with h; exact h.symm)
    (by
      simp only [Ob.under, List.all_eq_true]
      exact fun x hx => FV.under_mono (fun i hi => alive_set (by simp) hi) (hu x hx))

theorem keyEq_stays {old new : Value} (h : keyEq new old = some true) : (Instr.keyThatStays old new).run P w = .ok new w := by
  have : Instr.sameBits 10000 old new = true := by
    cases new <;> cases old <;> simp only [keyEq, reduceCtorEq] at h
    · rename_i k a k' b
      cases hk : decide (k = k') with
      | false => rw [hk] at h; simp at h
      | true =>
        rw [hk] at h; simp only [cond_true, Option.some.injEq] at h
        have := of_decide_eq_true hk
        subst this
        have hab : a = b := by simpa using h
        subst hab
        show Instr.sameBits (9999 + 1) _ _ = true
        simp [Instr.sameBits]
    · rename_i s s'
      simp only [Option.some.injEq] at h
      show Instr.sameBits (9999 + 1) _ _ = true
      simp only [Instr.sameBits]
      have hc : ∀ a b : ByteArray, (a == b) = true → (b == a) = true := by
        intro a b hab
        have h1 : (a.data == b.data) = true := hab
        show (b.data == a.data) = true
        rw [beq_iff_eq] at h1 ⊢; exact h1.symm
      exact hc _ _ h
  unfold Instr.keyThatStays
  rw [if_pos this]; rfl

theorem update_sound (hT : T.fits P) (hR : RS κ w σ) (hl : Sees σ look) {t : TypeId} {m k x : V} {ym yk yx : Value} {u : Upd} (h : updateOf T t m k x look = some u)
    (hm : RV κ w m ym) (hk : RV κ w k yk) (hx : RV κ w x yx) (hxu : x.under (alive σ) = true) :
    OpOk κ w σ ((do Instr.mapUpdate t ym yk yx; pure Next.skip : Sem Next).run P w) .undef u := by
  unfold updateOf at h
  split at h
  case h_2 => simp at h
  rename_i id es kk et f he hfv
  obtain ⟨kt, d, b, ents, clock, hu, hd, hdk, rfl, rfl, ho, hb, hh, hents, hnS⟩ := entries_sound hR hl he hm hk
  have hrf := fv_sound hfv hx
  have hfu := fv_under hfv hxu
  have hinner : ∀ y ∈ es, y.2.under (alive σ) = true := by
    have := hR.inner _ _ ho
    simpa only [Ob.under, List.all_eq_true] using this
  cases hf : findKey yk es 0 with
  | none => simp [hf] at h
  | some r =>
  simp only [hf] at h
  rcases find_sound hdk es ents.toList 0 r hents hf with ⟨rfl, hnow⟩ | ⟨j, x', e, rfl, hej, hlj, hke, _, hnow⟩
  · simp only [Option.some.injEq] at h; subst h
    have hents' : Ents κ w (es ++ [(yk, f)]) (ents.push { key := yk, val := yx, born := clock }).toList := by
      refine ⟨by simp [hents.1], fun i k x hi => ?_⟩
      rw [Array.toList_push]
      rw [List.getElem?_append] at hi
      split at hi
      · rename_i hlt
        obtain ⟨e, h1, h2, h3⟩ := hents.2 i k x hi
        exact ⟨e, by rw [List.getElem?_append, if_pos (by rw [hents.1]; exact hlt)]; exact h1, h2, h3⟩
      · rename_i hge
        have hi0 : i - es.length = 0 := by
          by_cases h0 : i - es.length = 0
          · exact h0
          · obtain ⟨q, hq⟩ : ∃ q, i - es.length = q + 1 := ⟨i - es.length - 1, by omega⟩
            rw [hq] at hi; simp at hi
        rw [hi0] at hi; simp at hi
        obtain ⟨rfl, rfl⟩ := hi
        refine ⟨{ key := yk, val := yx, born := clock }, ?_, rfl, hrf⟩
        rw [List.getElem?_append, if_neg (by rw [hents.1]; exact hge), hents.1, hi0]; rfl
    obtain ⟨g1, g2⟩ := map_put (clock' := clock + 1) hR ho hb hh hnS hents' (fun y hy => by
      rcases List.mem_append.1 hy with hy | hy
      · exact hinner y hy
      · simp at hy; subst hy; exact hfu)
    refine ⟨Go.undef, _, κ, .inr ⟨?_, rfl⟩, .undef, rfl, g1, g2⟩
    have hrun : (Instr.mapUpdate t (.map (some b)) yk yx).run P w = .ok () (put w b (.map (ents.push { key := yk, val := yx, born := clock }) (clock + 1))) := by
      unfold Instr.mapUpdate
      rw [run_bind (run_underlying hT hu)]
      simp only
      rw [run_bind (run_getObj hh)]
      simp only
      rw [run_bind (run_checkKey hT hd hdk _), run_bind (run_findKey hT hd hnow)]
      simp only
      exact run_setObj _ hh
    rw [run_bind hrun]; rfl
  · simp only [Nat.zero_add, Option.some.injEq] at h hnow; subst h
    have hjl : j < es.length := (List.getElem?_eq_some_iff.1 hej).1
    have hents' : Ents κ w (es.set j (yk, f)) (ents.modify j fun e => { e with key := yk, val := yx }).toList := by
      refine ⟨by simp [hents.1], fun i k x hi => ?_⟩
      rw [Array.getElem?_toList, Array.getElem?_modify]
      by_cases hij : j = i
      · subst hij
        simp only [List.getElem?_set_self hjl, Option.some.injEq, Prod.mk.injEq] at hi
        obtain ⟨rfl, rfl⟩ := hi
        rw [if_pos rfl, ← Array.getElem?_toList, hlj]
        exact ⟨_, rfl, rfl, hrf⟩
      · rw [List.getElem?_set_ne hij] at hi
        rw [if_neg hij, ← Array.getElem?_toList]
        exact hents.2 i k x hi
    obtain ⟨g1, g2⟩ := map_put (clock' := clock) hR ho hb hh hnS hents' (fun y hy => by
      rcases List.mem_or_eq_of_mem_set hy with hy | hy
      · exact hinner y hy
      · subst hy; exact hfu)
    refine ⟨Go.undef, _, κ, .inr ⟨?_, rfl⟩, .undef, rfl, g1, g2⟩
    have hrun : (Instr.mapUpdate t (.map (some b)) yk yx).run P w = .ok () (put w b (.map (ents.modify j fun e => { e with key := yk, val := yx }) clock)) := by
      unfold Instr.mapUpdate
      rw [run_bind (run_underlying hT hu)]
      simp only
      rw [run_bind (run_getObj hh)]
      simp only
      rw [run_bind (run_checkKey hT hd hdk _), run_bind (run_findKey hT hd hnow)]
      simp only
      have hold : ((ents[j]?).map (·.key)).getD yk = e.key := by rw [← Array.getElem?_toList, hlj]; rfl
      rw [hold, run_bind (keyEq_stays hke)]
      exact run_setObj _ hh
    rw [run_bind hrun]; rfl

theorem delete_sound (hT : T.fits P) (hR : RS κ w σ) (hl : Sees σ look) {t ty t' : TypeId} {m k : V} {ym yk : Value} {u : Upd} (h : deleteOf T t m k look = some u)
    (hm : RV κ w m ym) (hk : RV κ w k yk) :
    OpOk κ w σ ((do pure (Next.value (← Builtin.delete_ #[t, t'] ty #[ym, yk])) : Sem Next).run P w) (.tup []) u := by
  unfold deleteOf at h
  split at h
  case h_2 => simp at h
  rename_i id es kk et he
  obtain ⟨kt, d, b, ents, clock, hu, hd, hdk, rfl, rfl, ho, hb, hh, hents, hnS⟩ := entries_sound hR hl he hm hk
  have hinner : ∀ y ∈ es, y.2.under (alive σ) = true := by
    have := hR.inner _ _ ho
    simpa only [Ob.under, List.all_eq_true] using this
  cases hf : findKey yk es 0 with
  | none => simp [hf] at h
  | some r =>
  simp only [hf] at h
  have hrun : ∀ (r' : Option (Nat × Value)) (o : Obj), Instr.findNow d yk ents.toList 0 = some r' →
      o = (match r' with | some (i, _) => .map (ents.eraseIdxIfInBounds i) clock | none => .map ents clock) →
      (Builtin.delete_ #[t, t'] ty #[.map (some b), yk]).run P w = .ok (.tuple #[]) (put w b o) := by
    intro r' o hr' ho'
    unfold Builtin.delete_
    simp only [List.getElem?_toArray, List.getElem?_cons_zero, List.getElem?_cons_succ]
    rw [run_bind (run_underlying hT hu)]
    simp only
    rw [run_bind (run_getObj hh)]
    simp only
    rw [run_bind (run_checkKey hT hd hdk _), run_bind (run_findKey hT hd hr')]
    subst ho'
    cases r' with
    | none => simp only; rw [run_bind (run_setObj _ hh)]; rfl
    | some p => obtain ⟨i, v⟩ := p; simp only; rw [run_bind (run_setObj _ hh)]; rfl
  rcases find_sound hdk es ents.toList 0 r hents hf with ⟨rfl, hnow⟩ | ⟨j, x', e, rfl, hej, hlj, hke, _, hnow⟩
  · simp only [Option.some.injEq] at h; subst h
    obtain ⟨g1, g2⟩ := map_put (clock' := clock) hR ho hb hh hnS hents hinner
    exact ⟨_, _, κ, .inl (by rw [run_bind (hrun none _ hnow rfl)]; rfl), .tup _ _ rfl (fun i x v h => by simp at h), rfl, g1, g2⟩
  · simp only [Nat.zero_add, Option.some.injEq] at h hnow; subst h
    have hjl : j < es.length := (List.getElem?_eq_some_iff.1 hej).1
    have hents' : Ents κ w (es.eraseIdx j) (ents.eraseIdxIfInBounds j).toList := by
      have hjs : j < ents.size := by have := hents.1; simp at this; omega
      have hel : (ents.eraseIdxIfInBounds j).toList = ents.toList.eraseIdx j := by
        simp [Array.eraseIdxIfInBounds, hjs]
      rw [hel]
      refine ⟨by rw [List.length_eraseIdx, List.length_eraseIdx, hents.1], fun i k x hi => ?_⟩
      rw [List.getElem?_eraseIdx] at hi ⊢
      split at hi
      · rename_i hlt; rw [if_pos hlt]; exact hents.2 i k x hi
      · rename_i hlt; rw [if_neg hlt]; exact hents.2 (i + 1) k x hi
    obtain ⟨g1, g2⟩ := map_put (clock' := clock) hR ho hb hh hnS hents' (fun y hy => hinner y (List.mem_of_mem_eraseIdx hy))
    exact ⟨_, _, κ, .inl (by rw [run_bind (hrun _ _ hnow rfl)]; rfl), .tup _ _ rfl (fun i x v h => by simp at h), rfl, g1, g2⟩
end
end Go.Am
