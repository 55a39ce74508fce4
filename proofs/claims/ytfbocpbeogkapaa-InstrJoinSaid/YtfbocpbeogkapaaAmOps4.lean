/- The abstract machine: soundness of what is built, of interfaces, of made slices. -/
import Derived.Test.YtfbocpbeogkapaaAmOps3
import Derived.Laws.Tables
import Derived.Laws.MakeOwn
set_option linter.unusedVariables false
set_option linter.unusedSimpArgs false
namespace Go.Am

section
variable {P : Program} {T : Tab} {κ : K} {w : World} {σ : St} {look : Look}

theorem zeroCells_of {t : TypeId} {z : List Cell} (h : zeroCells T t = some z) : ∃ v, T.zero t = some v ∧ z = ofCells v.cells ∧ allPlain v.cells.toList = true := by
  unfold zeroCells at h
  cases hz : T.zero t with
  | none => simp [hz] at h
  | some v =>
    simp only [hz] at h
    cases hp : allPlain v.cells.toList with
    | false => rw [hp] at h; simp at h
    | true => rw [hp] at h; simp only [cond_true, Option.some.injEq] at h; exact ⟨v, rfl, h.symm, hp⟩
theorem RCs.ofCells : ∀ {vs : List Value}, Am.allPlain vs = true → RCs κ w (vs.map fun c => .d (.sc c)) vs
  | [], _ => .nil
  | v :: r, h => by
    simp only [Am.allPlain, Bool.and_eq_true] at h
    exact .cons (.d _ _ (.sc _ h.1)) (RCs.ofCells h.2)
theorem underAll_ofCells {L : Nat → Bool} (vs : List Value) : underAll L (vs.map fun c => Cell.d (.sc c)) = true :=
  underAll_of fun i c hc => by
    simp only [List.getElem?_map, Option.map_eq_some_iff] at hc
    obtain ⟨x, _, rfl⟩ := hc; rfl

/-! fill -/
theorem foldl_put : ∀ (vs : List Value) (c : Array Value) (off k : Nat), off + k + vs.length ≤ c.size →
    ((vs.zipIdx k).foldl (fun cs (x : Value × Nat) => cs.setIfInBounds (off + x.2) x.1) c) = putCells c (off + k) vs
  | [], c, off, k, _ => by rw [putCells_nil]; rfl
  | v :: vs, c, off, k, h => by
    simp only [List.length_cons] at h
    simp only [List.zipIdx_cons, List.foldl_cons]
    rw [foldl_put vs _ off (k + 1) (by simp; omega)]
    rw [show off + (k + 1) = off + k + 1 from by omega, putCells_cons (by simp only [List.length_cons]; omega)]

/-- parts here and there -/
inductive Parts (κ : K) (w : World) : List (Nat × List Cell) → List (Nat × Value) → Prop where
  | nil : Parts κ w [] []
  | cons (i : Nat) (cs : List Cell) (v : Value) (r : List (Nat × List Cell)) (r' : List (Nat × Value)) (h : RCs κ w cs v.cells.toList) (k : Parts κ w r r') : Parts κ w ((i, cs) :: r) ((i, v) :: r')

theorem fill_sound {place : Nat → Option (Nat × Nat)} {ps : List (Nat × List Cell)} {ps' : List (Nat × Value)} (hp : Parts κ w ps ps') :
    ∀ {cells cs : List Cell} {c : Array Value}, fillAt place cells ps = some cs → RCs κ w cells c.toList → ∃ c', Instr.fill place c ps' = some c' ∧ RCs κ w cs c'.toList := by
  induction hp with
  | nil => intro cells cs c h hc; simp only [fillAt, Option.some.injEq] at h; subst h; exact ⟨c, rfl, hc⟩
  | cons i xs v r r' hv _ ih =>
    intro cells cs c h hc
    simp only [fillAt, fL_eq] at h
    cases hpl : place i with
    | none => simp [hpl] at h
    | some p =>
    obtain ⟨off, size⟩ := p
    simp only [hpl] at h
    cases hb : Nat.beq xs.length size && Nat.ble (off + xs.length) cells.length with
    | false => rw [hb] at h; simp at h
    | true =>
    rw [hb] at h; simp only [cond_true] at h
    simp only [Bool.and_eq_true, Nat.beq_eq] at hb
    obtain ⟨rfl, hle⟩ := hb
    have hle := Nat.le_of_ble_eq_true hle
    have hvl : v.cells.size = xs.length := by have := hv.1; simp at this; omega
    have hcl : c.size = cells.length := by have := hc.1; simp at this; omega
    obtain ⟨c', h1, h2⟩ := ih h (hc.put hv hle)
    refine ⟨c', ?_, h2⟩
    simp only [Instr.fill, hpl]
    rw [if_neg (by simp [hvl]; omega)]
    have : (v.cells.zipIdx.foldl (fun cs (x : Value × Nat) => cs.setIfInBounds (off + x.2) x.1) c) = putCells c off v.cells.toList := by
      rw [← Array.foldl_toList, Array.toList_zipIdx]
      exact foldl_put _ c off 0 (by simp; omega)
    rw [← h1, ← this]

theorem fill_under {L : Nat → Bool} {place : Nat → Option (Nat × Nat)} : ∀ {ps : List (Nat × List Cell)} {cells cs : List Cell}, fillAt place cells ps = some cs →
    (∀ p ∈ ps, underAll L p.2 = true) → underAll L cells = true → underAll L cs = true
  | [], cells, cs, h, _, hu => by simp only [fillAt, Option.some.injEq] at h; subst h; exact hu
  | (i, xs) :: r, cells, cs, h, hp, hu => by
    simp only [fillAt, fL_eq] at h
    cases hpl : place i with
    | none => simp [hpl] at h
    | some p =>
    obtain ⟨off, size⟩ := p
    simp only [hpl] at h
    cases hb : Nat.beq xs.length size && Nat.ble (off + xs.length) cells.length with
    | false => rw [hb] at h; simp at h
    | true =>
    rw [hb] at h; simp only [cond_true] at h
    exact fill_under h (fun p hm => hp p (by simp [hm])) (underAll_append (underAll_append (underAll_take _ hu) (hp (i, xs) (by simp))) (underAll_drop _ hu))

theorem parts_sound {ρ : Operand → Option V} {η : Operand → Value} {L : Nat → Bool} (hρ : ∀ x v, ρ x = some v → RV κ w v (η x) ∧ v.under L = true) :
    ∀ {ps : List (Nat × Operand)} {qs : List (Nat × List Cell)}, partsOf ρ ps = some qs → Parts κ w qs (ps.map fun (i, x) => (i, η x)) ∧ ∀ p ∈ qs, underAll L p.2 = true
  | [], qs, h => by simp only [partsOf, Option.some.injEq] at h; subst h; exact ⟨.nil, fun p hp => by simp at hp⟩
  | (i, x) :: r, qs, h => by
    simp only [partsOf] at h
    cases hx : ρ x with
    | none => simp [hx] at h
    | some v =>
    simp only [hx] at h
    cases hc : v.cells with
    | none => simp [hc] at h
    | some cs =>
    cases hr : partsOf ρ r with
    | none => simp [hc, hr] at h
    | some rest =>
    simp only [hc, hr, Option.some.injEq] at h; subst h
    obtain ⟨h1, h2⟩ := hρ x v hx
    obtain ⟨h3, h4⟩ := parts_sound hρ hr
    exact ⟨.cons _ _ _ _ _ (cells_sound h1 hc) h3, fun p hp => by
      rcases List.mem_cons.1 hp with rfl | hp
      · exact cells_under h2 hc
      · exact h4 p hp⟩

theorem places_sound (hT : T.fits P) : ∀ {fs : List Field} {ps : List (Nat × Nat)}, placesOf T fs = some ps → fs.mapM (fun f => (P.info? f.type).map fun i => (f.offset, i.size)) = some ps
  | [], ps, h => by simp only [placesOf, Option.some.injEq] at h; subst h; rfl
  | f :: r, ps, h => by
    simp only [placesOf] at h
    cases hn : T.size f.type with
    | none => simp [hn] at h
    | some n =>
    cases hr : placesOf T r with
    | none => simp [hn, hr] at h
    | some rest =>
    simp only [hn, hr, Option.some.injEq] at h; subst h
    unfold Tab.size at hn
    cases hg : T.get f.type with
    | none => simp [hg] at hn
    | some i =>
    simp only [hg, Option.map_some, Option.some.injEq] at hn; subst hn
    simp [List.mapM_cons, T.get_sound hT hg, places_sound hT hr]

theorem build_sound (hT : T.fits P) {t : TypeId} {qs : List (Nat × List Cell)} {cs : List Cell} (h : buildOf T t qs = some cs) {ps : Array (Nat × Value)} (hp : Parts κ w qs ps.toList)
    {L : Nat → Bool} (hu : ∀ p ∈ qs, underAll L p.2 = true) : ∃ c, (Instr.build t ps).run P w = .ok (.agg c) w ∧ RCs κ w cs c.toList ∧ underAll L cs = true := by
  unfold buildOf at h
  cases hz : zeroCells T t with
  | none => simp [hz] at h
  | some z =>
  simp only [hz] at h
  obtain ⟨v, hv, rfl, hpl⟩ := zeroCells_of hz
  have hz0 : RCs κ w (Am.ofCells v.cells) v.cells.toList := RCs.ofCells hpl
  have hzu : underAll L (Am.ofCells v.cells) = true := underAll_ofCells _
  unfold Tab.zero at hv
  cases hg : T.get t with
  | none => simp [hg] at hv
  | some it =>
  simp only [hg, Option.bind_some] at hv
  split at h
  · rename_i fs hfs
    cases hpls : placesOf T fs.toList with
    | none => simp [hpls] at h
    | some pl =>
    simp only [hpls] at h
    obtain ⟨c, h1, h2⟩ := fill_sound hp h hz0
    refine ⟨c, run_build w t ps c ?_, h2, fill_under h hu hzu⟩
    unfold Program.built
    rw [T.get_sound hT hg, T.und_sound hT hfs]
    simp only [hv, places_sound hT hpls]
    simpa using h1
  · rename_i n e he
    cases hn : T.size e with
    | none => simp [hn] at h
    | some k =>
    simp only [hn] at h
    obtain ⟨c, h1, h2⟩ := fill_sound hp h hz0
    refine ⟨c, run_build w t ps c ?_, h2, fill_under h hu hzu⟩
    unfold Program.built
    rw [T.get_sound hT hg, T.und_sound hT he]
    unfold Tab.size at hn
    cases hge : T.get e with
    | none => simp [hge] at hn
    | some ie =>
    simp only [hge, Option.map_some, Option.some.injEq] at hn; subst hn
    simp only [hv, T.get_sound hT hge]
    exact h1
  · simp at h

/-! rows out of cells -/
theorem rowsFrom_get (n : Nat) : ∀ (k : Nat) (ds : List D) (i : Nat) (row : List D), (rowsFrom n k ds)[i]? = some row → i < k ∧ row = (ds.drop (i * n)).take n
  | 0, ds, i, row, h => by simp [rowsFrom] at h
  | k + 1, ds, i, row, h => by
    simp only [rowsFrom] at h
    cases i with
    | zero => simp at h; subst h; simp
    | succ i =>
      simp only [List.getElem?_cons_succ] at h
      obtain ⟨h1, h2⟩ := rowsFrom_get n k _ i row h
      refine ⟨by omega, ?_⟩
      rw [h2, List.drop_drop, Nat.add_mul, Nat.one_mul, Nat.add_comm]
theorem rowsFrom_length (n : Nat) : ∀ (k : Nat) (ds : List D), (rowsFrom n k ds).length = k
  | 0, _ => rfl
  | k + 1, ds => by simp [rowsFrom, rowsFrom_length n k]

theorem flatten_replicate_get {α : Type} (z : List α) : ∀ (len i : Nat), i < len * z.length → ((List.replicate len z).flatten)[i]? = z[i % z.length]?
  | 0, i, h => by simp at h
  | len + 1, i, h => by
    rw [Nat.add_mul, Nat.one_mul] at h
    simp only [List.replicate_succ, List.flatten_cons]
    rw [List.getElem?_append]
    by_cases hi : i < z.length
    · rw [if_pos hi, Nat.mod_eq_of_lt hi]
    · rw [if_neg hi, flatten_replicate_get z len (i - z.length) (by omega)]
      congr 1
      have : i = (i - z.length) + z.length := by omega
      conv => rhs; rw [this, Nat.add_mod_right]

theorem zeroRows_sound {e : TypeId} {n len : Nat} {cs : List Cell} (h : zeroRows T e n len = some cs) :
    (len * n = 0 ∧ cs = []) ∨ ∃ z, len * n ≠ 0 ∧ T.zero e = some z ∧ z.cells.size = n ∧ RCs κ w cs ((Array.range (len * n)).map (z.cells[· % z.cells.size]!)).toList := by
  unfold zeroRows at h
  split at h
  · rename_i h0; simp only [Option.some.injEq] at h; exact .inl ⟨h0, h.symm⟩
  · rename_i k hk
    cases hz : zeroCells T e with
    | none => simp [hz] at h
    | some zc =>
    simp only [hz] at h
    obtain ⟨z, hz1, rfl, hpl⟩ := zeroCells_of hz
    cases hb : Nat.beq (Am.ofCells z.cells).length n with
    | false => rw [hb] at h; simp at h
    | true =>
    rw [hb] at h; simp only [cond_true, Option.some.injEq] at h; subst h
    have hn : z.cells.size = n := by simpa [Am.ofCells] using hb
    refine .inr ⟨z, by omega, hz1, hn, ?_⟩
    have hlz : (Am.ofCells z.cells).length = n := by simp [Am.ofCells, hn]
    refine ⟨by simp [hlz, hn], fun i c v hc hv => ?_⟩
    have hi : i < len * n := by
      have := (List.getElem?_eq_some_iff.1 hv).1; simpa using this
    have hnpos : 0 < n := by rcases Nat.eq_zero_or_pos n with h | h; · subst h; simp at hi
                             · exact h
    rw [flatten_replicate_get _ _ _ (by rw [hlz]; exact hi), hlz] at hc
    have hlt : i % n < z.cells.size := by rw [hn]; exact Nat.mod_lt _ hnpos
    simp only [Array.toList_map, Array.toList_range, List.getElem?_map, hn] at hv
    rw [List.getElem?_range hi] at hv
    simp only [Option.map_some, Option.some.injEq] at hv
    rw [getElem!_pos z.cells (i % n) hlt] at hv
    have hall : RCs κ w (z.cells.toList.map fun c => .d (.sc c)) z.cells.toList := RCs.ofCells hpl
    refine hall.2 (i % n) c v hc ?_
    rw [Array.getElem?_toList, Array.getElem?_eq_getElem hlt, hv]

theorem buildSlice_run (hT : T.fits P) {t : TypeId} {len n : Nat} {qs : List (Nat × List Cell)} {rows : List (List D)} (hR : RS κ w σ) (hl : Sees σ look)
    (h : buildSliceOf T t len qs look = some (n, rows)) {ps : Array (Nat × Value)} (hp : Parts κ w qs ps.toList) :
    ∃ c E, (Instr.buildSlice t len ps).run P w = .ok (.slice (some ⟨w.heap.size, 0, none⟩) rows.length rows.length) (alloc w (.cells c E (0, 0))) ∧ (∀ r ∈ rows, r.length = n) ∧
      rows.length * n ≤ c.size ∧ Lies κ.S w rows n c := by
  unfold buildSliceOf at h
  cases he : T.elem t with
  | none => simp [he] at h
  | some e =>
  cases hn : T.size e with
  | none => simp [he, hn] at h
  | some k =>
  simp only [he, hn] at h
  cases hble : Nat.ble (len * k) (2 ^ 24) with
  | false => rw [hble] at h; simp at h
  | true =>
  rw [hble] at h; simp only [cond_true] at h
  have hble' := Nat.le_of_ble_eq_true hble
  cases hz : zeroRows T e k len with
  | none => simp [hz] at h
  | some z =>
  simp only [hz] at h
  cases hf : fillAt (fun i => some (i * k, k)) z qs with
  | none => simp [hf] at h
  | some cs =>
  simp only [hf] at h
  cases hds : dataAll look cs with
  | none => simp [hds] at h
  | some ds =>
  simp only [hds, Option.some.injEq, Prod.mk.injEq] at h
  obtain ⟨rfl, rfl⟩ := h
  rw [rowsFrom_length]
  have hund := elem_und he
  -- the zero cells
  have hzero : ∃ zv : Array Value, ((len * k = 0 ∧ zv = #[]) ∨ (len * k ≠ 0 ∧ ∃ z, T.zero e = some z ∧ zv = z.cells)) ∧ RCs κ w z ((Array.range (len * k)).map (zv[· % zv.size]!)).toList ∧ z.length = len * k := by
    rcases zeroRows_sound (κ := κ) (w := w) hz with ⟨h0, rfl⟩ | ⟨zv, h0, hz1, hz2, hz3⟩
    · refine ⟨#[], .inl ⟨h0, rfl⟩, ?_, by simp [h0]⟩
      simpa [h0] using RCs.nil
    · refine ⟨zv.cells, .inr ⟨h0, zv, hz1, rfl⟩, hz3, ?_⟩
      have := hz3.1; simpa using this
  obtain ⟨zv, hzr, hzc, hzl⟩ := hzero
  obtain ⟨c, hfill, hcs⟩ := fill_sound hp hf hzc
  obtain ⟨hdl, hdr⟩ := dataAll_sound hR hl hds hcs
  have hfl : ∀ {ps : List (Nat × List Cell)} {a b : List Cell}, fillAt (fun i => some (i * k, k)) a ps = some b → b.length = a.length := by
    intro ps
    induction ps with
    | nil => intro a b h; simp only [fillAt, Option.some.injEq] at h; rw [h]
    | cons p r ih =>
      intro a b h
      obtain ⟨i, xs⟩ := p
      simp only [fillAt, fL_eq] at h
      cases hb : Nat.beq xs.length k && Nat.ble (i * k + xs.length) a.length with
      | false => rw [hb] at h; simp at h
      | true =>
        rw [hb] at h; simp only [cond_true] at h
        simp only [Bool.and_eq_true] at hb
        have := Nat.le_of_ble_eq_true hb.2
        rw [ih h]; simp [setCells]; omega
  have hcl : c.size = len * k := by
    have := hcs.1; rw [hfl hf, hzl] at this; simpa using this.symm
  have hdlen : ds.length = len * k := by rw [hdl]; simpa using hcl
  refine ⟨c, e, ?_, ?_, by omega, ?_⟩
  · unfold Instr.buildSlice
    rw [run_bind (run_underlying hT hund)]
    simp only
    rw [run_bind (run_sizeOf hT hn)]
    have h24 : ¬ len * k > 2 ^ 24 := by omega
    simp only [h24, if_false]
    rcases hzr with ⟨h0, rfl⟩ | ⟨h0, z', hz', rfl⟩
    · rw [if_pos h0]
      refine (run_bind (a := #[]) (w' := w) rfl).trans ?_
      simp only [hfill]
      rw [run_bind (run_newRow e c)]; rfl
    · rw [if_neg h0, run_bind (run_zeroValue hT hz')]
      refine (run_bind (a := z'.cells) (w' := w) rfl).trans ?_
      simp only [hfill]
      rw [run_bind (run_newRow e c)]; rfl
  · intro r hr
    obtain ⟨i, hi⟩ := List.mem_iff_getElem?.1 hr
    obtain ⟨h1, rfl⟩ := rowsFrom_get _ _ _ _ _ hi
    have hmul : (i + 1) * k ≤ len * k := Nat.mul_le_mul_right _ h1
    rw [Nat.add_mul] at hmul
    simp; omega
  · intro i j row d hi hj
    obtain ⟨h1, rfl⟩ := rowsFrom_get _ _ _ _ _ hi
    rw [List.getElem?_take] at hj
    split at hj
    · rw [List.getElem?_drop] at hj
      have hlt : i * k + j < c.size := by
        have := (List.getElem?_eq_some_iff.1 hj).1; omega
      exact ⟨c[i * k + j], Array.getElem?_eq_getElem hlt, hdr _ d _ hj (by rw [Array.getElem?_toList]; exact Array.getElem?_eq_getElem hlt)⟩
    · simp at hj

theorem arr_or_list (hR : RS κ w σ) {nid : Nat} {mode : Option Bool} {rows : List (List D)} {n : Nat} {c : Array Value} {E : TypeId} {w' : World} {run : Result Next} {v : V} {u : Upd}
    (hrun : run = .ok (.value (.slice (some ⟨w.heap.size, 0, none⟩) rows.length rows.length)) w') (hg : Grew w w' (.cells c E (0, 0)))
    (hrow : ∀ r ∈ rows, r.length = n) (hsz : rows.length * n ≤ c.size) (hl : Lies κ.S w rows n c) (hn : mode.isSome = true → σ[nid]? = some .dead)
    (h : arrOrList mode nid n rows = some (v, u)) :
    OpOk κ w σ run v u := by
  unfold arrOrList at h
  cases mode with
  | none =>
    simp only [Option.some.injEq, Prod.mk.injEq] at h; obtain ⟨rfl, rfl⟩ := h
    obtain ⟨h1, h2, h3⟩ := list_made (cap := rows.length) hR hg (Nat.le_refl _) hrow hl
    exact ⟨_, _, _, .inl hrun, .one _ _ (.d _ _ h3), rfl, h1, h2⟩
  | some m =>
    simp only [Option.some.injEq, Prod.mk.injEq] at h; obtain ⟨rfl, rfl⟩ := h
    obtain ⟨h1, h2, h3, h4⟩ := arr_made (m := m) (cap := rows.length) hR (hn rfl) hg hrow (Nat.le_refl _) hsz hl
    exact ⟨_, _, _, .inl hrun, h3, h4, h1, h2⟩

theorem makeSlice_sound (hT : T.fits P) (hR : RS κ w σ) {nid : Nat} {mode : Option Bool} {t : TypeId} {kl kc : IntKind} {len cap : Int} {v : V} {u : Upd}
    (h : makeSliceOf T nid mode t len cap = some (v, u)) (hn : mode.isSome = true → σ[nid]? = some .dead) :
    OpOk κ w σ ((do pure (Next.value (← Instr.makeSlice t (.int kl len) (.int kc cap))) : Sem Next).run P w) v u := by
  unfold makeSliceOf at h
  cases he : T.elem t with
  | none => simp [he] at h
  | some e =>
  simp only [he] at h
  cases hsz : T.size e with
  | none => simp [hsz] at h
  | some n =>
  cases hwb : T.bytes e with
  | none => simp [hsz, hwb] at h
  | some wb =>
  cases hz : T.zero e with
  | none => simp [hsz, hwb, hz] at h
  | some z =>
  simp only [hsz, hwb, hz] at h
  cases hc : (decide (len = cap) && decide (0 ≤ len) && decide (len * wb ≤ most) && decide (len < 2 ^ 62)) && (Nat.beq z.cells.size n && allPlain z.cells.toList) with
  | false => rw [hc] at h; simp at h
  | true =>
  rw [hc] at h; simp only [cond_true] at h
  simp only [Bool.and_eq_true, decide_eq_true_eq, Nat.beq_eq] at hc
  obtain ⟨⟨⟨⟨rfl, h0⟩, hw⟩, h62⟩, hzn, hpl⟩ := hc
  have hund := elem_und he
  unfold Tab.size at hsz
  unfold Tab.bytes at hwb
  unfold Tab.zero at hz
  cases hg : T.get e with
  | none => simp [hg] at hz
  | some i =>
  simp only [hg, Option.map_some, Option.some.injEq, Option.bind_some] at hsz hwb hz
  subst hsz; subst hwb
  have hwm : (i.bytes : Int) * len ≤ 281474976710656 := by
    rw [Int.mul_comm]
    refine Int.le_trans hw ?_
    show ((2 ^ 47 : Nat) : Int) ≤ _
    omega
  have hrun := run_make (P := P) (w := w) t e i z (T.und_sound hT hund) (T.get_sound hT hg) hz kl kc len len h0 (Int.le_refl _) hwm (by omega)
  generalize hrows : List.replicate len.toNat (z.cells.toList.map D.sc) = rows at h
  have hrl : rows.length = len.toNat := by subst hrows; simp
  refine arr_or_list (n := i.size) (w' := alloc w (.cells (madeCells z.cells (len.toNat * i.size)) e)) hR (by rw [run_bind hrun, hrl]; rfl) (Grew.alloc w _) ?_ ?_ ?_ hn h
  · intro r hr; subst hrows
    rw [List.mem_replicate] at hr
    rw [hr.2]; simp [hzn]
  · rw [size_madeCells, hrl]; exact Nat.le_refl _
  · intro a b row d ha hb
    subst hrows
    rw [List.getElem?_replicate] at ha
    split at ha
    · rename_i hlt
      injection ha with ha; subst ha
      simp only [List.getElem?_map, Option.map_eq_some_iff] at hb
      obtain ⟨x, hx, rfl⟩ := hb
      have hbn : b < i.size := by rw [← hzn]; simpa using (List.getElem?_eq_some_iff.1 hx).1
      have hmul : (a + 1) * i.size ≤ len.toNat * i.size := Nat.mul_le_mul_right _ hlt
      rw [Nat.add_mul] at hmul
      refine ⟨x, ?_, .sc _ ?_⟩
      · unfold madeCells
        rw [Array.getElem?_map, Array.getElem?_range, if_pos (by omega)]
        simp only [Option.map_some, Option.some.injEq]
        rw [hzn, Nat.mul_comm a, Nat.mul_add_mod, Nat.mod_eq_of_lt hbn]
        have hlt2 : b < z.cells.size := by omega
        rw [getElem!_pos z.cells b hlt2]
        rw [Array.getElem?_toList, Array.getElem?_eq_getElem hlt2] at hx
        injection hx
      · have hall : RCs κ w (z.cells.toList.map fun c => .d (.sc c)) z.cells.toList := RCs.ofCells hpl
        exact (hall.2 b (.d (.sc x)) x (by simp [List.getElem?_map, hx]) hx).plain
    · simp at ha
end
end Go.Am
