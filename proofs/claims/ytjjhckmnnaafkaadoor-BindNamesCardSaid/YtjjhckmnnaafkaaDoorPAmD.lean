/- A part of a proof: functions of the program walked over the abstract machine, and what they compute. -/
import Derived.Test.YtjjhckmnnaafkaaDoorPAmC
import Derived.Laws.Tables
import Derived.Laws.MakeOwn
import Derived.MapKept
set_option linter.unusedVariables false
set_option linter.unusedSimpArgs false
/- The abstract machine: soundness of what is built, of interfaces, of made slices. -/
namespace Go.Am
section
variable {P : Program} {T : Tab} {κ : K} {w : World} {σ : St} {look : Look}
theorem zeroCells_of {t : TypeId} {z : List Cell} (h : zeroCells T t = some z) : ∃ v, T.zero t = some v ∧ z = ofCells v.cells ∧ allPlain v.cells.toList = true := by
  unfold zeroCells at h
  cases hz : T.zero t with
  | none => simp [hz] at h
  | some v =>
    simp only [hz] at h
    cases hp : allPlain v.cells.toList with
    | false => rw [hp] at h; simp at h
    | true => rw [hp] at h; simp only [cond_true, Option.some.injEq] at h; exact ⟨v, rfl, h.symm, hp⟩
theorem RCs.ofCells : ∀ {vs : List Value}, Am.allPlain vs = true → RCs κ w (vs.map fun c => .d (.sc c)) vs
  | [], _ => .nil
  | v :: r, h => by
    simp only [Am.allPlain, Bool.and_eq_true] at h
    exact .cons (.d _ _ (.sc _ h.1)) (RCs.ofCells h.2)
theorem underAll_ofCells {L : Nat → Bool} (vs : List Value) : underAll L (vs.map fun c => Cell.d (.sc c)) = true :=
  underAll_of fun i c hc => by
    simp only [List.getElem?_map, Option.map_eq_some_iff] at hc
    obtain ⟨x, _, rfl⟩ := hc; rfl
/-! fill -/
theorem foldl_put : ∀ (vs : List Value) (c : Array Value) (off k : Nat), off + k + vs.length ≤ c.size →
    ((vs.zipIdx k).foldl (fun cs (x : Value × Nat) => cs.setIfInBounds (off + x.2) x.1) c) = putCells c (off + k) vs
  | [], c, off, k, _ => by rw [putCells_nil]; rfl
  | v :: vs, c, off, k, h => by
    simp only [List.length_cons] at h
    simp only [List.zipIdx_cons, List.foldl_cons]
    rw [foldl_put vs _ off (k + 1) (by simp; omega)]
    rw [show off + (k + 1) = off + k + 1 from by omega, putCells_cons (by simp only [List.length_cons]; omega)]
/-- parts here and there -/
inductive Parts (κ : K) (w : World) : List (Nat × List Cell) → List (Nat × Value) → Prop where
  | nil : Parts κ w [] []
  | cons (i : Nat) (cs : List Cell) (v : Value) (r : List (Nat × List Cell)) (r' : List (Nat × Value)) (h : RCs κ w cs v.cells.toList) (k : Parts κ w r r') : Parts κ w ((i, cs) :: r) ((i, v) :: r')
theorem fill_sound {place : Nat → Option (Nat × Nat)} {ps : List (Nat × List Cell)} {ps' : List (Nat × Value)} (hp : Parts κ w ps ps') :
    ∀ {cells cs : List Cell} {c : Array Value}, fillAt place cells ps = some cs → RCs κ w cells c.toList → ∃ c', Instr.fill place c ps' = some c' ∧ RCs κ w cs c'.toList := by
  induction hp with
  | nil => intro cells cs c h hc; simp only [fillAt, Option.some.injEq] at h; subst h; exact ⟨c, rfl, hc⟩
  | cons i xs v r r' hv _ ih =>
    intro cells cs c h hc
    simp only [fillAt, fL_eq] at h
    cases hpl : place i with
    | none => simp [hpl] at h
    | some p =>
    obtain ⟨off, size⟩ := p
    simp only [hpl] at h
    cases hb : Nat.beq xs.length size && Nat.ble (off + xs.length) cells.length with
    | false => rw [hb] at h; simp at h
    | true =>
    rw [hb] at h; simp only [cond_true] at h
    simp only [Bool.and_eq_true, Nat.beq_eq] at hb
    obtain ⟨rfl, hle⟩ := hb
    have hle := Nat.le_of_ble_eq_true hle
    have hvl : v.cells.size = xs.length := by have := hv.1; simp at this; omega
    have hcl : c.size = cells.length := by have := hc.1; simp at this; omega
    obtain ⟨c', h1, h2⟩ := ih h (hc.put hv hle)
    refine ⟨c', ?_, h2⟩
    simp only [Instr.fill, hpl]
    rw [if_neg (by simp [hvl]; omega)]
    have : (v.cells.zipIdx.foldl (fun cs (x : Value × Nat) => cs.setIfInBounds (off + x.2) x.1) c) = putCells c off v.cells.toList := by
      rw [← Array.foldl_toList, Array.toList_zipIdx]
      exact foldl_put _ c off 0 (by simp; omega)
    rw [← h1, ← this]
theorem fill_under {L : Nat → Bool} {place : Nat → Option (Nat × Nat)} : ∀ {ps : List (Nat × List Cell)} {cells cs : List Cell}, fillAt place cells ps = some cs →
    (∀ p ∈ ps, underAll L p.2 = true) → underAll L cells = true → underAll L cs = true
  | [], cells, cs, h, _, hu => by simp only [fillAt, Option.some.injEq] at h; subst h; exact hu
  | (i, xs) :: r, cells, cs, h, hp, hu => by
    simp only [fillAt, fL_eq] at h
    cases hpl : place i with
    | none => simp [hpl] at h
    | some p =>
    obtain ⟨off, size⟩ := p
    simp only [hpl] at h
    cases hb : Nat.beq xs.length size && Nat.ble (off + xs.length) cells.length with
    | false => rw [hb] at h; simp at h
    | true =>
    rw [hb] at h; simp only [cond_true] at h
    exact fill_under h (fun p hm => hp p (by simp [hm])) (underAll_append (underAll_append (underAll_take _ hu) (hp (i, xs) (by simp))) (underAll_drop _ hu))
theorem parts_sound {ρ : Operand → Option V} {η : Operand → Value} {L : Nat → Bool} (hρ : ∀ x v, ρ x = some v → RV κ w v (η x) ∧ v.under L = true) :
    ∀ {ps : List (Nat × Operand)} {qs : List (Nat × List Cell)}, partsOf ρ ps = some qs → Parts κ w qs (ps.map fun (i, x) => (i, η x)) ∧ ∀ p ∈ qs, underAll L p.2 = true
  | [], qs, h => by simp only [partsOf, Option.some.injEq] at h; subst h; exact ⟨.nil, fun p hp => by simp at hp⟩
  | (i, x) :: r, qs, h => by
    simp only [partsOf] at h
    cases hx : ρ x with
    | none => simp [hx] at h
    | some v =>
    simp only [hx] at h
    cases hc : v.cells with
    | none => simp [hc] at h
    | some cs =>
    cases hr : partsOf ρ r with
    | none => simp [hc, hr] at h
    | some rest =>
    simp only [hc, hr, Option.some.injEq] at h; subst h
    obtain ⟨h1, h2⟩ := hρ x v hx
    obtain ⟨h3, h4⟩ := parts_sound hρ hr
    exact ⟨.cons _ _ _ _ _ (cells_sound h1 hc) h3, fun p hp => by
      rcases List.mem_cons.1 hp with rfl | hp
      · exact cells_under h2 hc
      · exact h4 p hp⟩
theorem places_sound (hT : T.fits P) : ∀ {fs : List Field} {ps : List (Nat × Nat)}, placesOf T fs = some ps → fs.mapM (fun f => (P.info? f.type).map fun i => (f.offset, i.size)) = some ps
  | [], ps, h => by simp only [placesOf, Option.some.injEq] at h; subst h; rfl
  | f :: r, ps, h => by
    simp only [placesOf] at h
    cases hn : T.size f.type with
    | none => simp [hn] at h
    | some n =>
    cases hr : placesOf T r with
    | none => simp [hn, hr] at h
    | some rest =>
    simp only [hn, hr, Option.some.injEq] at h; subst h
    unfold Tab.size at hn
    cases hg : T.get f.type with
    | none => simp [hg] at hn
    | some i =>
    simp only [hg, Option.map_some, Option.some.injEq] at hn; subst hn
    simp [List.mapM_cons, T.get_sound hT hg, places_sound hT hr]
theorem build_sound (hT : T.fits P) {t : TypeId} {qs : List (Nat × List Cell)} {cs : List Cell} (h : buildOf T t qs = some cs) {ps : Array (Nat × Value)} (hp : Parts κ w qs ps.toList)
    {L : Nat → Bool} (hu : ∀ p ∈ qs, underAll L p.2 = true) : ∃ c, (Instr.build t ps).run P w = .ok (.agg c) w ∧ RCs κ w cs c.toList ∧ underAll L cs = true := by
  unfold buildOf at h
  cases hz : zeroCells T t with
  | none => simp [hz] at h
  | some z =>
  simp only [hz] at h
  obtain ⟨v, hv, rfl, hpl⟩ := zeroCells_of hz
  have hz0 : RCs κ w (Am.ofCells v.cells) v.cells.toList := RCs.ofCells hpl
  have hzu : underAll L (Am.ofCells v.cells) = true := underAll_ofCells _
  unfold Tab.zero at hv
  cases hg : T.get t with
  | none => simp [hg] at hv
  | some it =>
  simp only [hg, Option.bind_some] at hv
  split at h
  · rename_i fs hfs
    cases hpls : placesOf T fs.toList with
    | none => simp [hpls] at h
    | some pl =>
    simp only [hpls] at h
    obtain ⟨c, h1, h2⟩ := fill_sound hp h hz0
    refine ⟨c, run_build w t ps c ?_, h2, fill_under h hu hzu⟩
    unfold Program.built
    rw [T.get_sound hT hg, T.und_sound hT hfs]
    simp only [hv, places_sound hT hpls]
    simpa using h1
  · rename_i n e he
    cases hn : T.size e with
    | none => simp [hn] at h
    | some k =>
    simp only [hn] at h
    obtain ⟨c, h1, h2⟩ := fill_sound hp h hz0
    refine ⟨c, run_build w t ps c ?_, h2, fill_under h hu hzu⟩
    unfold Program.built
    rw [T.get_sound hT hg, T.und_sound hT he]
    unfold Tab.size at hn
    cases hge : T.get e with
    | none => simp [hge] at hn
    | some ie =>
    simp only [hge, Option.map_some, Option.some.injEq] at hn; subst hn
    simp only [hv, T.get_sound hT hge]
    exact h1
  · simp at h
/-! rows out of cells -/
theorem rowsFrom_get (n : Nat) : ∀ (k : Nat) (ds : List D) (i : Nat) (row : List D), (rowsFrom n k ds)[i]? = some row → i < k ∧ row = (ds.drop (i * n)).take n
  | 0, ds, i, row, h => by simp [rowsFrom] at h
  | k + 1, ds, i, row, h => by
    simp only [rowsFrom] at h
    cases i with
    | zero => simp at h; subst h; simp
    | succ i =>
      simp only [List.getElem?_cons_succ] at h
      obtain ⟨h1, h2⟩ := rowsFrom_get n k _ i row h
      refine ⟨by omega, ?_⟩
      rw [h2, List.drop_drop, Nat.add_mul, Nat.one_mul, Nat.add_comm]
theorem rowsFrom_length (n : Nat) : ∀ (k : Nat) (ds : List D), (rowsFrom n k ds).length = k
  | 0, _ => rfl
  | k + 1, ds => by simp [rowsFrom, rowsFrom_length n k]
theorem flatten_replicate_get {α : Type} (z : List α) : ∀ (len i : Nat), i < len * z.length → ((List.replicate len z).flatten)[i]? = z[i % z.length]?
  | 0, i, h => by simp at h
  | len + 1, i, h => by
    rw [Nat.add_mul, Nat.one_mul] at h
    simp only [List.replicate_succ, List.flatten_cons]
    rw [List.getElem?_append]
    by_cases hi : i < z.length
    · rw [if_pos hi, Nat.mod_eq_of_lt hi]
    · rw [if_neg hi, flatten_replicate_get z len (i - z.length) (by omega)]
      congr 1
      have : i = (i - z.length) + z.length := by omega
      conv => rhs; rw [this, Nat.add_mod_right]
theorem zeroRows_sound {e : TypeId} {n len : Nat} {cs : List Cell} (h : zeroRows T e n len = some cs) :
    (len * n = 0 ∧ cs = []) ∨ ∃ z, len * n ≠ 0 ∧ T.zero e = some z ∧ z.cells.size = n ∧ RCs κ w cs ((Array.range (len * n)).map (z.cells[· % z.cells.size]!)).toList := by
  unfold zeroRows at h
  split at h
  · rename_i h0; simp only [Option.some.injEq] at h; exact .inl ⟨h0, h.symm⟩
  · rename_i k hk
    cases hz : zeroCells T e with
    | none => simp [hz] at h
    | some zc =>
    simp only [hz] at h
    obtain ⟨z, hz1, rfl, hpl⟩ := zeroCells_of hz
    cases hb : Nat.beq (Am.ofCells z.cells).length n with
    | false => rw [hb] at h; simp at h
    | true =>
    rw [hb] at h; simp only [cond_true, Option.some.injEq] at h; subst h
    have hn : z.cells.size = n := by simpa [Am.ofCells] using hb
    refine .inr ⟨z, by omega, hz1, hn, ?_⟩
    have hlz : (Am.ofCells z.cells).length = n := by simp [Am.ofCells, hn]
    refine ⟨by simp [hlz, hn], fun i c v hc hv => ?_⟩
    have hi : i < len * n := by
      have := (List.getElem?_eq_some_iff.1 hv).1; simpa using this
    have hnpos : 0 < n := by rcases Nat.eq_zero_or_pos n with h | h; · subst h; simp at hi
                             · exact h
    rw [flatten_replicate_get _ _ _ (by rw [hlz]; exact hi), hlz] at hc
    have hlt : i % n < z.cells.size := by rw [hn]; exact Nat.mod_lt _ hnpos
    simp only [Array.toList_map, Array.toList_range, List.getElem?_map, hn] at hv
    rw [List.getElem?_range hi] at hv
    simp only [Option.map_some, Option.some.injEq] at hv
    rw [getElem!_pos z.cells (i % n) hlt] at hv
    have hall : RCs κ w (z.cells.toList.map fun c => .d (.sc c)) z.cells.toList := RCs.ofCells hpl
    refine hall.2 (i % n) c v hc ?_
    rw [Array.getElem?_toList, Array.getElem?_eq_getElem hlt, hv]
theorem buildSlice_run [HasGlob] (hT : T.fits P) {t : TypeId} {len n : Nat} {qs : List (Nat × List Cell)} {rows : List (List D)} (hR : RS κ w σ) (hl : Sees σ look)
    (h : buildSliceOf T t len qs look = some (n, rows)) {ps : Array (Nat × Value)} (hp : Parts κ w qs ps.toList) :
    ∃ c E, (Instr.buildSlice t len ps).run P w = .ok (.slice (some ⟨w.heap.size, 0, none⟩) rows.length rows.length) (alloc w (.cells c E (0, 0))) ∧ (∀ r ∈ rows, r.length = n) ∧
      rows.length * n ≤ c.size ∧ Lies κ.S w rows n c := by
  unfold buildSliceOf at h
  cases he : T.elem t with
  | none => simp [he] at h
  | some e =>
  cases hn : T.size e with
  | none => simp [he, hn] at h
  | some k =>
  simp only [he, hn] at h
  cases hble : Nat.ble (len * k) (2 ^ 24) with
  | false => rw [hble] at h; simp at h
  | true =>
  rw [hble] at h; simp only [cond_true] at h
  have hble' := Nat.le_of_ble_eq_true hble
  cases hz : zeroRows T e k len with
  | none => simp [hz] at h
  | some z =>
  simp only [hz] at h
  cases hf : fillAt (fun i => some (i * k, k)) z qs with
  | none => simp [hf] at h
  | some cs =>
  simp only [hf] at h
  cases hds : dataAll look cs with
  | none => simp [hds] at h
  | some ds =>
  simp only [hds, Option.some.injEq, Prod.mk.injEq] at h
  obtain ⟨rfl, rfl⟩ := h
  rw [rowsFrom_length]
  have hund := elem_und he
  -- the zero cells
  have hzero : ∃ zv : Array Value, ((len * k = 0 ∧ zv = #[]) ∨ (len * k ≠ 0 ∧ ∃ z, T.zero e = some z ∧ zv = z.cells)) ∧ RCs κ w z ((Array.range (len * k)).map (zv[· % zv.size]!)).toList ∧ z.length = len * k := by
    rcases zeroRows_sound (κ := κ) (w := w) hz with ⟨h0, rfl⟩ | ⟨zv, h0, hz1, hz2, hz3⟩
    · refine ⟨#[], .inl ⟨h0, rfl⟩, ?_, by simp [h0]⟩
      simpa [h0] using RCs.nil
    · refine ⟨zv.cells, .inr ⟨h0, zv, hz1, rfl⟩, hz3, ?_⟩
      have := hz3.1; simpa using this
  obtain ⟨zv, hzr, hzc, hzl⟩ := hzero
  obtain ⟨c, hfill, hcs⟩ := fill_sound hp hf hzc
  obtain ⟨hdl, hdr⟩ := dataAll_sound hR hl hds hcs
  have hfl : ∀ {ps : List (Nat × List Cell)} {a b : List Cell}, fillAt (fun i => some (i * k, k)) a ps = some b → b.length = a.length := by
    intro ps
    induction ps with
    | nil => intro a b h; simp only [fillAt, Option.some.injEq] at h; rw [h]
    | cons p r ih =>
      intro a b h
      obtain ⟨i, xs⟩ := p
      simp only [fillAt, fL_eq] at h
      cases hb : Nat.beq xs.length k && Nat.ble (i * k + xs.length) a.length with
      | false => rw [hb] at h; simp at h
      | true =>
        rw [hb] at h; simp only [cond_true] at h
        simp only [Bool.and_eq_true] at hb
        have := Nat.le_of_ble_eq_true hb.2
        rw [ih h]; simp [setCells]; omega
  have hcl : c.size = len * k := by
    have := hcs.1; rw [hfl hf, hzl] at this; simpa using this.symm
  have hdlen : ds.length = len * k := by rw [hdl]; simpa using hcl
  refine ⟨c, e, ?_, ?_, by omega, ?_⟩
  · unfold Instr.buildSlice
    rw [run_bind (run_underlying hT hund)]
    simp only
    rw [run_bind (run_sizeOf hT hn)]
    have h24 : ¬ len * k > 2 ^ 24 := by omega
    simp only [h24, if_false]
    rcases hzr with ⟨h0, rfl⟩ | ⟨h0, z', hz', rfl⟩
    · rw [if_pos h0]
      refine (run_bind (a := #[]) (w' := w) rfl).trans ?_
      simp only [hfill]
      rw [run_bind (run_newRow e c)]; rfl
    · rw [if_neg h0, run_bind (run_zeroValue hT hz')]
      refine (run_bind (a := z'.cells) (w' := w) rfl).trans ?_
      simp only [hfill]
      rw [run_bind (run_newRow e c)]; rfl
  · intro r hr
    obtain ⟨i, hi⟩ := List.mem_iff_getElem?.1 hr
    obtain ⟨h1, rfl⟩ := rowsFrom_get _ _ _ _ _ hi
    have hmul : (i + 1) * k ≤ len * k := Nat.mul_le_mul_right _ h1
    rw [Nat.add_mul] at hmul
    simp; omega
  · intro i j row d hi hj
    obtain ⟨h1, rfl⟩ := rowsFrom_get _ _ _ _ _ hi
    rw [List.getElem?_take] at hj
    split at hj
    · rw [List.getElem?_drop] at hj
      have hlt : i * k + j < c.size := by
        have := (List.getElem?_eq_some_iff.1 hj).1; omega
      exact ⟨c[i * k + j], Array.getElem?_eq_getElem hlt, hdr _ d _ hj (by rw [Array.getElem?_toList]; exact Array.getElem?_eq_getElem hlt)⟩
    · simp at hj
theorem arr_or_list [HasGlob] (hR : RS κ w σ) {nid : Nat} {mode : Option Bool} {rows : List (List D)} {n : Nat} {c : Array Value} {E : TypeId} {w' : World} {run : Result Next} {v : V} {u : Upd}
    (hrun : run = .ok (.value (.slice (some ⟨w.heap.size, 0, none⟩) rows.length rows.length)) w') (hg : Grew w w' (.cells c E (0, 0)))
    (hrow : ∀ r ∈ rows, r.length = n) (hsz : rows.length * n ≤ c.size) (hl : Lies κ.S w rows n c) (hn : mode.isSome = true → σ[nid]? = some .dead)
    (h : arrOrList mode nid n rows = some (v, u)) :
    OpOk κ w σ run v u := by
  unfold arrOrList at h
  cases mode with
  | none =>
    simp only [Option.some.injEq, Prod.mk.injEq] at h; obtain ⟨rfl, rfl⟩ := h
    obtain ⟨h1, h2, h3⟩ := list_made (cap := rows.length) hR hg (Nat.le_refl _) hrow hl
    exact ⟨_, _, _, .inl hrun, .one _ _ (.d _ _ h3), rfl, h1, h2⟩
  | some m =>
    simp only [Option.some.injEq, Prod.mk.injEq] at h; obtain ⟨rfl, rfl⟩ := h
    obtain ⟨h1, h2, h3, h4⟩ := arr_made (m := m) (cap := rows.length) hR (hn rfl) hg hrow (Nat.le_refl _) hsz hl
    exact ⟨_, _, _, .inl hrun, h3, h4, h1, h2⟩
theorem makeSlice_sound [HasGlob] (hT : T.fits P) (hR : RS κ w σ) {nid : Nat} {mode : Option Bool} {t : TypeId} {kl kc : IntKind} {len cap : Int} {v : V} {u : Upd}
    (h : makeSliceOf T nid mode t len cap = some (v, u)) (hn : mode.isSome = true → σ[nid]? = some .dead) :
    OpOk κ w σ ((do pure (Next.value (← Instr.makeSlice t (.int kl len) (.int kc cap))) : Sem Next).run P w) v u := by
  unfold makeSliceOf at h
  cases he : T.elem t with
  | none => simp [he] at h
  | some e =>
  simp only [he] at h
  cases hsz : T.size e with
  | none => simp [hsz] at h
  | some n =>
  cases hwb : T.bytes e with
  | none => simp [hsz, hwb] at h
  | some wb =>
  cases hz : T.zero e with
  | none => simp [hsz, hwb, hz] at h
  | some z =>
  simp only [hsz, hwb, hz] at h
  cases hc : (decide (len = cap) && decide (0 ≤ len) && decide (len * wb ≤ most) && decide (len < 2 ^ 62)) && (Nat.beq z.cells.size n && allPlain z.cells.toList) with
  | false => rw [hc] at h; simp at h
  | true =>
  rw [hc] at h; simp only [cond_true] at h
  simp only [Bool.and_eq_true, decide_eq_true_eq, Nat.beq_eq] at hc
  obtain ⟨⟨⟨⟨rfl, h0⟩, hw⟩, h62⟩, hzn, hpl⟩ := hc
  have hund := elem_und he
  unfold Tab.size at hsz
  unfold Tab.bytes at hwb
  unfold Tab.zero at hz
  cases hg : T.get e with
  | none => simp [hg] at hz
  | some i =>
  simp only [hg, Option.map_some, Option.some.injEq, Option.bind_some] at hsz hwb hz
  subst hsz; subst hwb
  have hwm : (i.bytes : Int) * len ≤ 281474976710656 := by
    rw [Int.mul_comm]
    refine Int.le_trans hw ?_
    show ((2 ^ 47 : Nat) : Int) ≤ _
    omega
  have hrun := run_make (P := P) (w := w) t e i z (T.und_sound hT hund) (T.get_sound hT hg) hz kl kc len len h0 (Int.le_refl _) hwm (by omega)
  generalize hrows : List.replicate len.toNat (z.cells.toList.map D.sc) = rows at h
  have hrl : rows.length = len.toNat := by subst hrows; simp
  refine arr_or_list (n := i.size) (w' := alloc w (.cells (madeCells z.cells (len.toNat * i.size)) e)) hR (by rw [run_bind hrun, hrl]; rfl) (Grew.alloc w _) ?_ ?_ ?_ hn h
  · intro r hr; subst hrows
    rw [List.mem_replicate] at hr
    rw [hr.2]; simp [hzn]
  · rw [size_madeCells, hrl]; exact Nat.le_refl _
  · intro a b row d ha hb
    subst hrows
    rw [List.getElem?_replicate] at ha
    split at ha
    · rename_i hlt
      injection ha with ha; subst ha
      simp only [List.getElem?_map, Option.map_eq_some_iff] at hb
      obtain ⟨x, hx, rfl⟩ := hb
      have hbn : b < i.size := by rw [← hzn]; simpa using (List.getElem?_eq_some_iff.1 hx).1
      have hmul : (a + 1) * i.size ≤ len.toNat * i.size := Nat.mul_le_mul_right _ hlt
      rw [Nat.add_mul] at hmul
      refine ⟨x, ?_, .sc _ ?_⟩
      · unfold madeCells
        rw [Array.getElem?_map, Array.getElem?_range, if_pos (by omega)]
        simp only [Option.map_some, Option.some.injEq]
        rw [hzn, Nat.mul_comm a, Nat.mul_add_mod, Nat.mod_eq_of_lt hbn]
        have hlt2 : b < z.cells.size := by omega
        rw [getElem!_pos z.cells b hlt2]
        rw [Array.getElem?_toList, Array.getElem?_eq_getElem hlt2] at hx
        injection hx
      · have hall : RCs κ w (z.cells.toList.map fun c => .d (.sc c)) z.cells.toList := RCs.ofCells hpl
        exact (hall.2 b (.d (.sc x)) x (by simp [List.getElem?_map, hx]) hx).plain
    · simp at ha
end
end Go.Am
/- The abstract machine: soundness of interfaces, maps, conversions, lengths, scalars. -/
namespace Go.Am
section
variable {P : Program} {T : Tab} {κ : K} {w : World} {σ : St} {look : Look}
theorem nilChecked_sound {v x : V} {y : Value} {o : Oper} {a : Operand} {η : Operand → Value} (ho : o.op = .nilCheck a) (hy : η a = y) (h : nilChecked x = some v) (hx : RV κ w x y) :
    (execOp η o).run P w = .ok (.value y) w ∧ v = x := by
  unfold execOp
  simp only [ho, hy]
  unfold nilChecked at h
  split at h <;> first
    | (injection h with h; subst h
       cases hx with | one _ _ hc => cases hc <;> exact ⟨rfl, rfl⟩)
    | simp at h
/-! interfaces -/
theorem iface_sound [HasGlob] (hT : T.fits P) (hR : RS κ w σ) (hl : Sees σ look) {t : TypeId} {x v : V} {y : Value} (hi : isIface T t = some false) (h : ifaceOf look t x = some v) (hx : RV κ w x y) :
    (Instr.makeInterface t y).run P w = .ok (.iface t y) w ∧ RV κ w v (.iface t y) ∧ ∀ L, v.under L = true := by
  have hrun : (Instr.makeInterface t y).run P w = .ok (.iface t y) w := by
    unfold isIface at hi
    cases hu : T.und t with
    | none => simp [hu] at hi
    | some d =>
      unfold Instr.makeInterface
      rw [run_bind (run_underlying hT hu)]
      rw [hu] at hi
      cases d <;> first | rfl | (simp at hi)
  refine ⟨hrun, ?_⟩
  unfold ifaceOf at h
  split at h
  · rename_i c
    cases hd : dataOf look c with
    | none => simp [hd] at h
    | some x =>
    simp only [hd, Option.some.injEq] at h; subst h
    cases hx with | one _ _ hc => exact ⟨.one _ _ (.d _ _ (.ifc1 t x _ (data_sound hR hl hd hc))), fun _ => rfl⟩
  · rename_i cs
    cases hd : dataAll look cs with
    | none => simp [hd] at h
    | some xs =>
    simp only [hd, Option.some.injEq] at h; subst h
    cases hx with | agg _ vs hc =>
    obtain ⟨h1, h2⟩ := dataAll_sound hR hl hd hc
    refine ⟨.one _ _ (.d _ _ (.ifcA t xs vs (by simpa using h1) fun i d hi => ?_)), fun _ => rfl⟩
    have hlt : i < vs.size := by have := (List.getElem?_eq_some_iff.1 hi).1; simp at h1; omega
    have := h2 i d vs[i] hi (by rw [Array.getElem?_toList]; exact Array.getElem?_eq_getElem hlt)
    simpa [hlt] using this
  · simp at h
theorem ofValueF_sound {z : Value} {f : FV} (h : ofValueF z = some f) : RF κ w f z ∧ ∀ L, f.under L = true := by
  cases z with
  | agg cs =>
    simp only [ofValueF] at h
    cases hp : allPlain cs.toList with
    | false => rw [hp] at h; simp at h
    | true =>
      rw [hp] at h; simp only [cond_true, Option.some.injEq] at h; subst h
      exact ⟨.agg _ _ (RCs.ofCells hp), fun L => underAll_ofCells _⟩
  | tuple vs => simp [ofValueF] at h
  | _ => simp only [ofValueF, Option.some.injEq] at h; subst h; exact ⟨.one _ _ (.d _ _ (.sc _ rfl)), fun _ => rfl⟩
theorem ofValue_sound {z : Value} {f : V} (h : ofValue z = some f) : RV κ w f z ∧ ∀ L, f.under L = true := by
  cases z with
  | agg cs =>
    simp only [ofValue] at h
    cases hp : allPlain cs.toList with
    | false => rw [hp] at h; simp at h
    | true =>
      rw [hp] at h; simp only [cond_true, Option.some.injEq] at h; subst h
      exact ⟨.agg _ _ (RCs.ofCells hp), fun L => underAll_ofCells _⟩
  | tuple vs => simp [ofValue] at h
  | _ => simp only [ofValue, Option.some.injEq] at h; subst h; exact ⟨.one _ _ (.d _ _ (.sc _ rfl)), fun _ => rfl⟩
theorem RF.toV {x : FV} {y : Value} (h : RF κ w x y) : RV κ w x.v y := by
  cases h with
  | one c y h => exact RV.one c y h
  | agg cs vs h => exact RV.agg cs vs h
theorem FV.v_under {L : Nat → Bool} {x : FV} : x.v.under L = x.under L := by cases x <;> rfl
theorem fv_sound {v : V} {f : FV} {y : Value} (h : v.fv = some f) (hv : RV κ w v y) : RF κ w f y := by
  cases v <;> simp only [V.fv, Option.some.injEq, reduceCtorEq] at h <;> subst h
  · cases hv with | one _ _ h => exact .one _ _ h
  · cases hv with | agg _ _ h => exact .agg _ _ h
theorem fv_under {L : Nat → Bool} {v : V} {f : FV} (h : v.fv = some f) (hu : v.under L = true) : f.under L = true := by
  cases v <;> simp only [V.fv, Option.some.injEq, reduceCtorEq] at h <;> subst h <;> exact hu
theorem RV.pair {f : FV} {y : Value} (h : RF κ w f y) (b : Bool) : RV κ w (.tup [f, .one (.d (.sc (.bool b)))]) (.tuple #[y, .bool b]) := by
  refine .tup _ _ rfl fun i x v hx hv => ?_
  match i with
  | 0 => simp at hx hv; subst hx; subst hv; exact h
  | 1 => simp at hx hv; subst hx; subst hv; exact .one _ _ (.d _ _ (.sc _ rfl))
  | i + 2 => simp at hx
theorem under_pair {L : Nat → Bool} {f : FV} (h : f.under L = true) (b : Bool) : (V.tup [f, .one (.d (.sc (.bool b)))]).under L = true := by
  simp only [V.under, List.all_cons, List.all_nil, Bool.and_true, h, Bool.true_and]; rfl
theorem mkd_sound {g : Bool} {xs : List D} {v : V} {y : Value} (h : mk g (xs.map .d) = some v) (hg : ∃ t, RD κ.S w (.ifc t g xs) (.iface t y)) : RV κ w v y := by
  obtain ⟨t, hd⟩ := hg
  cases hd with
  | ifc1 _ d _ h' => simp only [List.map_cons, List.map_nil, mk, Option.some.injEq] at h; subst h; exact .one _ _ (.d _ _ h')
  | ifcA _ _ vs hn h' =>
    simp only [mk, Option.some.injEq] at h; subst h
    refine .agg _ _ ⟨by simpa using hn, fun i c v hc hv => ?_⟩
    simp only [List.getElem?_map, Option.map_eq_some_iff] at hc
    obtain ⟨x, hx, rfl⟩ := hc
    have := h' i x hx
    rw [Array.getElem?_toList] at hv
    obtain ⟨hlt, hv'⟩ := Array.getElem?_eq_some_iff.1 hv
    simp [hlt, hv'] at this
    exact .d _ _ this
theorem assert_sound (hT : T.fits P) {x v : V} {y : Value} {xt t : TypeId} {ok : Bool} (h : assertOf T x t ok = some v) (hx : RV κ w x y) :
    ∃ z, (Instr.typeAssert y xt t ok).run P w = .ok z w ∧ RV κ w v z ∧ ∀ L, v.under L = true := by
  unfold assertOf at h
  split at h
  case h_2 => simp at h
  rename_i hi
  unfold isIface at hi
  cases hu : T.und t with
  | none => simp [hu] at hi
  | some d =>
  have hnot : ∀ ms, d ≠ .interface ms := by intro ms e; subst e; simp [hu] at hi
  split at h
  · rename_i t' g xs
    cases hx with | one _ _ hc => cases hc with | d _ _ hd =>
    have hy : ∃ y', y = .iface t' y' := by cases hd <;> exact ⟨_, rfl⟩
    obtain ⟨y', rfl⟩ := hy
    cases ht : Nat.beq t' t with
    | true =>
      rw [ht] at h; simp only [cond_true] at h
      have ht' : t' = t := by simpa using ht
      subst ht'
      cases hm : mk g (xs.map .d) with
      | none => simp [hm] at h
      | some mv =>
      simp only [hm] at h
      cases hf : mv.fv with
      | none => simp [hf] at h
      | some f =>
      simp only [hf, Option.some.injEq] at h; subst h
      have hmv := mkd_sound hm ⟨t', hd⟩
      have hmu : ∀ L, mv.under L = true := fun L => mk_under hm (underAll_d _)
      have hrun : (Instr.typeAssert (.iface t' y') xt t' ok).run P w = .ok (if ok then .tuple #[y', .bool true] else y') w := by
        unfold Instr.typeAssert
        rw [run_bind (run_underlying hT hu)]
        cases d <;> first | (simp only [if_true]; cases ok <;> rfl) | exact absurd rfl (hnot _)
      refine ⟨_, hrun, ?_, fun L => ?_⟩
      · cases ok with
        | true => exact RV.pair (fv_sound hf hmv) true
        | false => exact hmv
      · cases ok with
        | true => exact under_pair (fv_under hf (hmu L)) true
        | false => exact hmu L
    | false =>
      rw [ht] at h; simp only [cond_false] at h
      cases ok with
      | false => simp at h
      | true =>
      simp only [cond_true] at h
      cases hz : T.zero t with
      | none => simp [hz] at h
      | some z =>
      simp only [hz] at h
      cases hf : ofValueF z with
      | none => simp [hf] at h
      | some f =>
      simp only [hf, Option.some.injEq] at h; subst h
      have hne : t' ≠ t := by intro e; subst e; simp at ht
      obtain ⟨h1, h2⟩ := ofValueF_sound (κ := κ) (w := w) hf
      refine ⟨_, ?_, RV.pair h1 false, fun L => under_pair (h2 L) false⟩
      unfold Instr.typeAssert
      rw [run_bind (run_underlying hT hu)]
      cases d <;> first
        | (simp only [hne, if_false, if_true]; rw [run_bind (run_zeroValue hT hz)]; rfl)
        | exact absurd rfl (hnot _)
  · cases ok with
    | false => simp at h
    | true =>
    simp only [cond_true] at h
    cases hz : T.zero t with
    | none => simp [hz] at h
    | some z =>
    simp only [hz] at h
    cases hf : ofValueF z with
    | none => simp [hf] at h
    | some f =>
    simp only [hf, Option.some.injEq] at h; subst h
    obtain ⟨h1, h2⟩ := ofValueF_sound (κ := κ) (w := w) hf
    cases hx with | one _ _ hc => cases hc with | d _ _ hd => cases hd with | sc _ _ =>
    refine ⟨_, ?_, RV.pair h1 false, fun L => under_pair (h2 L) false⟩
    unfold Instr.typeAssert
    rw [run_bind (run_underlying hT hu)]
    cases d <;> first
      | (simp only [if_true]; rw [run_bind (run_zeroValue hT hz)]; rfl)
      | exact absurd rfl (hnot _)
  · simp at h
end
end Go.Am
/- The abstract machine: soundness of maps. -/
namespace Go.Am
section
variable {P : Program} {T : Tab} {κ : K} {w : World} {σ : St} {look : Look}
/-- entries here and there -/
def Ents (κ : K) (w : World) (es : List (Value × FV)) (l : List MapEntry) : Prop :=
  l.length = es.length ∧ ∀ (i : Nat) (k : Value) (x : FV), es[i]? = some (k, x) → ∃ e, l[i]? = some e ∧ e.key = k ∧ RF κ w x e.val
theorem fits_und {t : TypeId} {k : Value} (h : keyFits T t k = true) : ∃ d, T.und t = some d ∧ ((∃ i, d = .int i) ∧ (∃ i n, k = .int i n) ∨ d = .string ∧ ∃ s, k = .string s) := by
  unfold keyFits at h
  split at h
  · rename_i a b c hd; exact ⟨_, hd, .inl ⟨⟨_, rfl⟩, _, _, rfl⟩⟩
  · rename_i a hd; exact ⟨_, hd, .inr ⟨rfl, _, rfl⟩⟩
  · simp at h
theorem same_now {d : TypeDesc} {k k' : Value} (hd : (∃ i, d = .int i) ∧ (∃ i n, k = .int i n) ∨ d = .string ∧ ∃ s, k = .string s) {b : Bool} (h : keyEq k k' = some b) :
    Instr.sameNow d k k' = some b := by
  rcases hd with ⟨⟨i, rfl⟩, j, n, rfl⟩ | ⟨rfl, s, rfl⟩
  · cases k' <;> simp only [keyEq, reduceCtorEq] at h
    rename_i j' n'
    cases hj : decide (j = j') with
    | false => rw [hj] at h; simp at h
    | true =>
      rw [hj] at h; simp only [cond_true, Option.some.injEq] at h; subst h
      simp [Instr.sameNow, of_decide_eq_true hj]
  · cases k' <;> simp only [keyEq, reduceCtorEq, Option.some.injEq] at h
    subst h; rfl
theorem find_sound {d : TypeDesc} {k : Value} (hd : (∃ i, d = .int i) ∧ (∃ i n, k = .int i n) ∨ d = .string ∧ ∃ s, k = .string s) :
    ∀ (es : List (Value × FV)) (l : List MapEntry) (i : Nat) (r : Option (Nat × FV)), Ents κ w es l → findKey k es i = some r →
      (r = none ∧ Instr.findNow d k l i = some none) ∨ ∃ j x e, r = some (i + j, x) ∧ es[j]? = some (e.key, x) ∧ l[j]? = some e ∧ keyEq k e.key = some true ∧ RF κ w x e.val ∧ Instr.findNow d k l i = some (some (i + j, e.val))
  | [], l, i, r, he, h => by
    simp only [findKey, Option.some.injEq] at h; subst h
    have : l = [] := List.length_eq_zero_iff.1 he.1
    subst this; exact .inl ⟨rfl, rfl⟩
  | (k', x) :: es, l, i, r, he, h => by
    obtain ⟨e, he1, he2, he3⟩ := he.2 0 k' x rfl
    cases l with
    | nil => simp at he1
    | cons e' l =>
      simp at he1; subst he1
      simp only [findKey] at h
      cases hk : keyEq k k' with
      | none => simp [hk] at h
      | some b =>
      have hs := same_now hd (k' := e'.key) (b := b) (by rw [he2]; exact hk)
      cases b with
      | true =>
        simp only [hk, Option.some.injEq] at h; subst h
        refine .inr ⟨0, x, e', rfl, by rw [he2]; rfl, rfl, by rw [he2]; exact hk, he3, ?_⟩
        simp [Instr.findNow, hs]
      | false =>
        simp only [hk] at h
        have he' : Ents κ w es l := ⟨by have := he.1; simpa using this, fun j k x hj => by simpa using he.2 (j + 1) k x (by simpa using hj)⟩
        have hnow : Instr.findNow d k (e' :: l) i = Instr.findNow d k l (i + 1) := by simp [Instr.findNow, hs]
        rcases find_sound hd es l (i + 1) r he' h with ⟨h1, h2⟩ | ⟨j, x', e, h1, h2, h3, h4, h5, h6⟩
        · exact .inl ⟨h1, by rw [hnow]; exact h2⟩
        · refine .inr ⟨j + 1, x', e, ?_, by simpa using h2, by simpa using h3, h4, h5, ?_⟩
          · rw [h1]; congr 2; omega
          · rw [hnow, h6]; congr 3; omega
theorem run_checkKey (hT : T.fits P) {t : TypeId} {d : TypeDesc} {k : Value} (hu : T.und t = some d) (hd : (∃ i, d = .int i) ∧ (∃ i n, k = .int i n) ∨ d = .string ∧ ∃ s, k = .string s) (b : Bool) :
    (Instr.checkKey b 10000 t k).run P w = .ok () w := by
  show (Instr.checkKey b (9999 + 1) t k).run P w = _
  unfold Instr.checkKey
  rw [run_bind (run_underlying hT hu)]
  rcases hd with ⟨⟨i, rfl⟩, j, n, rfl⟩ | ⟨rfl, s, rfl⟩ <;> rfl
theorem run_findKey (hT : T.fits P) {t : TypeId} {d : TypeDesc} {k : Value} (hu : T.und t = some d) {l : List MapEntry} {r : Option (Nat × Value)} (h : Instr.findNow d k l 0 = some r) :
    (Instr.findKey t k l).run P w = .ok r w := by
  unfold Instr.findKey
  rw [run_bind (run_underlying hT hu), h]; rfl
theorem entries_sound [HasGlob] (hR : RS κ w σ) (hl : Sees σ look) {t : TypeId} {m k : V} {ym yk : Value} {id : Nat} {es : List (Value × FV)} {kk : Value} {et : TypeId}
    (h : entriesOf T t m k look = some (id, es, kk, et)) (hm : RV κ w m ym) (hk : RV κ w k yk) :
    ∃ kt d b ents clock, T.und t = some (.map kt et) ∧ T.und kt = some d ∧ ((∃ i, d = .int i) ∧ (∃ i n, kk = .int i n) ∨ d = .string ∧ ∃ s, kk = .string s) ∧ yk = kk ∧
      ym = .map (some b) ∧ σ[id]? = some (.map es) ∧ κ.at_ id = some b ∧ w.heap[b]? = some (.map ents clock) ∧ Ents κ w es ents.toList ∧ (∀ o, ¬ κ.S b o) := by
  unfold entriesOf at h
  split at h
  case h_2 => simp at h
  rename_i kt et' hu
  split at h
  case h_2 => simp at h
  rename_i id' k'
  split at h
  case h_2 => simp at h
  rename_i es' ho
  cases hf : keyFits T kt k' with
  | false => rw [hf] at h; simp at h
  | true =>
  rw [hf] at h; simp only [cond_true, Option.some.injEq, Prod.mk.injEq] at h
  obtain ⟨rfl, rfl, rfl, rfl⟩ := h
  obtain ⟨d, hd, hdk⟩ := fits_und hf
  cases hm with | one _ _ hc => cases hc with | map _ b hb =>
  cases hk with | one _ _ hc => cases hc with | d _ _ hd' => cases hd' with | sc _ _ =>
  have ho' := hl _ _ ho
  obtain ⟨b', ents, clock, h1, h2, h3, h4, h5⟩ := hR.obj _ _ ho'
  rw [hb] at h1; injection h1 with h1; subst h1
  exact ⟨kt, d, b, ents, clock, hu, hd, hdk, rfl, rfl, ho', hb, h2, ⟨by simpa using h3, fun i k x hi => by
    obtain ⟨e, he1, he2, he3⟩ := h5 i k x hi
    exact ⟨e, by rw [Array.getElem?_toList]; exact he1, he2, he3⟩⟩, h4⟩
theorem run_getObj {b : Nat} {ents : Array MapEntry} {clock : Nat} (h : w.heap[b]? = some (.map ents clock)) : (getObj b).run P w = .ok (.map ents clock) w := by
  simp [getObj, Sem.run, h]
theorem run_setObj {b : Nat} {ents : Array MapEntry} {clock : Nat} (o : Obj) (h : w.heap[b]? = some (.map ents clock)) : (setObj b o).run P w = .ok () (put w b o) := by
  simp [setObj, Sem.run, h, put]
theorem lookup_sound [HasGlob] (hT : T.fits P) (hR : RS κ w σ) (hl : Sees σ look) {t : TypeId} {m k v : V} {ym yk : Value} {ok : Bool} (h : lookupOf T t m k ok look = some v)
    (hm : RV κ w m ym) (hk : RV κ w k yk) : ∃ z, (Instr.lookup t ym yk ok).run P w = .ok z w ∧ RV κ w v z ∧ v.under (alive σ) = true := by
  unfold lookupOf at h
  split at h
  case h_2 => simp at h
  rename_i id es kk et he
  obtain ⟨kt, d, b, ents, clock, hu, hd, hdk, rfl, rfl, ho, hb, hh, hents, _⟩ := entries_sound hR hl he hm hk
  cases hf : findKey yk es 0 with
  | none => simp [hf] at h
  | some r =>
  simp only [hf] at h
  have hrun : ∀ (r' : Option (Nat × Value)) (z : Value) (fnd : Bool), Instr.findNow d yk ents.toList 0 = some r' →
      (match r' with | some (_, v) => (pure (v, true) : Sem (Value × Bool)) | none => do pure (← zeroValue et, false)).run P w = .ok (z, fnd) w →
      (Instr.lookup t (.map (some b)) yk ok).run P w = .ok (if ok then .tuple #[z, .bool fnd] else z) w := by
    intro r' z fnd hr' hz
    unfold Instr.lookup
    rw [run_bind (run_underlying hT hu)]
    simp only
    rw [run_bind (run_getObj hh)]
    simp only
    refine (run_bind (a := ents) (w' := w) rfl).trans ?_
    rw [run_bind (run_checkKey hT hd hdk _), run_bind (run_findKey hT hd hr')]
    cases r' with
    | none =>
      simp only at hz ⊢
      rw [Sem.run_bind] at hz
      rw [Sem.run_bind]
      cases hzz : (zeroValue et).run P w with
      | halt a b => rw [hzz] at hz; simp [Result.andThen] at hz
      | ok a b =>
        rw [hzz] at hz
        simp only [Result.andThen] at hz ⊢
        have hz' : a = z ∧ false = fnd ∧ b = w := by
          simp only [pure, Sem.run] at hz; injection hz with h1 h2; injection h1 with h1 h3; exact ⟨h1, h3, h2⟩
        obtain ⟨rfl, rfl, rfl⟩ := hz'
        rfl
    | some p =>
      obtain ⟨i, v⟩ := p
      simp only at hz ⊢
      have hz' : v = z ∧ true = fnd := by
        simp only [pure, Sem.run] at hz; injection hz with h1 h2; injection h1 with h1 h3; exact ⟨h1, h3⟩
      obtain ⟨rfl, rfl⟩ := hz'
      rfl
  rcases find_sound hdk es ents.toList 0 r hents hf with ⟨rfl, hnow⟩ | ⟨j, x, e, rfl, hej, _, _, hrf, hnow⟩
  · simp only at h
    cases hz : T.zero et with
    | none => simp [hz] at h
    | some z =>
    simp only [hz] at h
    cases hff : ofValueF z with
    | none => simp [hff] at h
    | some f =>
    simp only [hff, Option.some.injEq] at h; subst h
    obtain ⟨h1, h2⟩ := ofValueF_sound (κ := κ) (w := w) hff
    refine ⟨_, hrun none z false hnow (by rw [run_bind (run_zeroValue hT hz)]; rfl), ?_, ?_⟩
    · cases ok with
      | true => exact RV.pair h1 false
      | false => exact h1.toV
    · cases ok with
      | true => exact under_pair (h2 _) false
      | false => exact (FV.v_under).trans (h2 _)
  · simp only [Option.some.injEq] at h; subst h
    have hxu : x.under (alive σ) = true := by
      have := hR.inner _ _ ho
      simp only [Ob.under, List.all_eq_true] at this
      exact this (e.key, x) (List.mem_of_getElem? hej)
    refine ⟨_, hrun _ e.val true hnow rfl, ?_, ?_⟩
    · cases ok with
      | true => exact RV.pair hrf true
      | false => exact hrf.toV
    · cases ok with
      | true => exact under_pair hxu true
      | false => exact (FV.v_under).trans hxu
/-- a map's block is written -/
theorem map_put [HasGlob] (hR : RS κ w σ) {id b : Nat} {es es' : List (Value × FV)} {ents ents' : Array MapEntry} {clock clock' : Nat} (ho : σ[id]? = some (.map es)) (hb : κ.at_ id = some b)
    (hh : w.heap[b]? = some (.map ents clock)) (hnS : ∀ o, ¬ κ.S b o) (h : Ents κ w es' ents'.toList) (hu : ∀ x ∈ es', x.2.under (alive σ) = true) :
    Evo κ w σ κ (put w b (.map ents' clock')) (σ.set id (.map es')) ∧ RS κ (put w b (.map ents' clock')) (σ.set id (.map es')) := by
  have hK : ∀ b' o, κ.S b' o → cellAt (put w b (.map ents' clock')) b' o = cellAt w b' o := fun b' o hs =>
    cell_of_heap (put_other (fun e => by subst e; exact hnS o hs)) o
  have hs : Stays κ w κ (put w b (.map ents' clock')) (alive σ) := ⟨fun _ _ h => h, hK, fun _ _ => rfl, fun _ _ _ _ _ h => h⟩
  exact RS.update (κ' := κ) (w' := put w b (.map ents' clock')) hR (o1 := .map es') (B := b) ho (.inl (by simpa [blockOf] using hb))
    (fun _ _ h => h) hK (fun _ _ => rfl) (fun _ _ _ _ _ h => h) (fun _ _ _ _ _ => rfl) (fun _ _ h => .inl h) (fun b' _ hne => put_other hne) (by rw [put_size]; exact Nat.le_refl _)
    (fun o hs => absurd hs (hnS o)) rfl rfl rfl (by simp)
    ⟨b, ents', clock', hb, put_same hh, by have := h.1; simpa using this, hnS, fun i k x hi => by
      obtain ⟨e, h1, h2, h3⟩ := h.2 i k x hi
      exact ⟨e, by rw [← Array.getElem?_toList]; exact h1, h2, h3.stays hs (hu (k, x) (List.mem_of_getElem? hi))⟩⟩
    (fun b' h => by simp only [blockOf] at h; rw [hb] at h; injection h with h; exact h.symm)
    (by
      simp only [Ob.under, List.all_eq_true]
      exact fun x hx => FV.under_mono (fun i hi => alive_set (by simp) hi) (hu x hx))
theorem keyEq_stays {old new : Value} (h : keyEq new old = some true) : (Instr.keyThatStays old new).run P w = .ok new w := by
  have : Instr.sameBits 10000 old new = true := by
    cases new <;> cases old <;> simp only [keyEq, reduceCtorEq] at h
    · rename_i k a k' b
      cases hk : decide (k = k') with
      | false => rw [hk] at h; simp at h
      | true =>
        rw [hk] at h; simp only [cond_true, Option.some.injEq] at h
        have := of_decide_eq_true hk
        subst this
        have hab : a = b := by simpa using h
        subst hab
        show Instr.sameBits (9999 + 1) _ _ = true
        simp [Instr.sameBits]
    · rename_i s s'
      simp only [Option.some.injEq] at h
      show Instr.sameBits (9999 + 1) _ _ = true
      simp only [Instr.sameBits]
      have hc : ∀ a b : ByteArray, (a == b) = true → (b == a) = true := by
        intro a b hab
        have h1 : (a.data == b.data) = true := hab
        show (b.data == a.data) = true
        rw [beq_iff_eq] at h1 ⊢; exact h1.symm
      exact hc _ _ h
  unfold Instr.keyThatStays
  rw [if_pos this]; rfl
theorem update_sound [HasGlob] (hT : T.fits P) (hR : RS κ w σ) (hl : Sees σ look) {t : TypeId} {m k x : V} {ym yk yx : Value} {u : Upd} (h : updateOf T t m k x look = some u)
    (hm : RV κ w m ym) (hk : RV κ w k yk) (hx : RV κ w x yx) (hxu : x.under (alive σ) = true) :
    OpOk κ w σ ((do Instr.mapUpdate t ym yk yx; pure Next.skip : Sem Next).run P w) .undef u := by
  unfold updateOf at h
  split at h
  case h_2 => simp at h
  rename_i id es kk et f he hfv
  obtain ⟨kt, d, b, ents, clock, hu, hd, hdk, rfl, rfl, ho, hb, hh, hents, hnS⟩ := entries_sound hR hl he hm hk
  have hrf := fv_sound hfv hx
  have hfu := fv_under hfv hxu
  have hinner : ∀ y ∈ es, y.2.under (alive σ) = true := by
    have := hR.inner _ _ ho
    simpa only [Ob.under, List.all_eq_true] using this
  cases hf : findKey yk es 0 with
  | none => simp [hf] at h
  | some r =>
  simp only [hf] at h
  rcases find_sound hdk es ents.toList 0 r hents hf with ⟨rfl, hnow⟩ | ⟨j, x', e, rfl, hej, hlj, hke, _, hnow⟩
  · simp only [Option.some.injEq] at h; subst h
    have hents' : Ents κ w (es ++ [(yk, f)]) (ents.push { key := yk, val := yx, born := clock }).toList := by
      refine ⟨by simp [hents.1], fun i k x hi => ?_⟩
      rw [Array.toList_push]
      rw [List.getElem?_append] at hi
      split at hi
      · rename_i hlt
        obtain ⟨e, h1, h2, h3⟩ := hents.2 i k x hi
        exact ⟨e, by rw [List.getElem?_append, if_pos (by rw [hents.1]; exact hlt)]; exact h1, h2, h3⟩
      · rename_i hge
        have hi0 : i - es.length = 0 := by
          by_cases h0 : i - es.length = 0
          · exact h0
          · obtain ⟨q, hq⟩ : ∃ q, i - es.length = q + 1 := ⟨i - es.length - 1, by omega⟩
            rw [hq] at hi; simp at hi
        rw [hi0] at hi; simp at hi
        obtain ⟨rfl, rfl⟩ := hi
        refine ⟨{ key := yk, val := yx, born := clock }, ?_, rfl, hrf⟩
        rw [List.getElem?_append, if_neg (by rw [hents.1]; exact hge), hents.1, hi0]; rfl
    obtain ⟨g1, g2⟩ := map_put (clock' := clock + 1) hR ho hb hh hnS hents' (fun y hy => by
      rcases List.mem_append.1 hy with hy | hy
      · exact hinner y hy
      · simp at hy; subst hy; exact hfu)
    refine ⟨Go.undef, _, κ, .inr ⟨?_, rfl⟩, .undef, rfl, g1, g2⟩
    have hrun : (Instr.mapUpdate t (.map (some b)) yk yx).run P w = .ok () (put w b (.map (ents.push { key := yk, val := yx, born := clock }) (clock + 1))) := by
      unfold Instr.mapUpdate
      rw [run_bind (run_underlying hT hu)]
      simp only
      rw [run_bind (run_getObj hh)]
      simp only
      rw [run_bind (run_checkKey hT hd hdk _), run_bind (run_findKey hT hd hnow)]
      simp only
      exact run_setObj _ hh
    rw [run_bind hrun]; rfl
  · simp only [Nat.zero_add, Option.some.injEq] at h hnow; subst h
    have hjl : j < es.length := (List.getElem?_eq_some_iff.1 hej).1
    have hents' : Ents κ w (es.set j (yk, f)) (ents.modify j fun e => { e with key := yk, val := yx }).toList := by
      refine ⟨by simp [hents.1], fun i k x hi => ?_⟩
      rw [Array.getElem?_toList, Array.getElem?_modify]
      by_cases hij : j = i
      · subst hij
        simp only [List.getElem?_set_self hjl, Option.some.injEq, Prod.mk.injEq] at hi
        obtain ⟨rfl, rfl⟩ := hi
        rw [if_pos rfl, ← Array.getElem?_toList, hlj]
        exact ⟨_, rfl, rfl, hrf⟩
      · rw [List.getElem?_set_ne hij] at hi
        rw [if_neg hij, ← Array.getElem?_toList]
        exact hents.2 i k x hi
    obtain ⟨g1, g2⟩ := map_put (clock' := clock) hR ho hb hh hnS hents' (fun y hy => by
      rcases List.mem_or_eq_of_mem_set hy with hy | hy
      · exact hinner y hy
      · subst hy; exact hfu)
    refine ⟨Go.undef, _, κ, .inr ⟨?_, rfl⟩, .undef, rfl, g1, g2⟩
    have hrun : (Instr.mapUpdate t (.map (some b)) yk yx).run P w = .ok () (put w b (.map (ents.modify j fun e => { e with key := yk, val := yx }) clock)) := by
      unfold Instr.mapUpdate
      rw [run_bind (run_underlying hT hu)]
      simp only
      rw [run_bind (run_getObj hh)]
      simp only
      rw [run_bind (run_checkKey hT hd hdk _), run_bind (run_findKey hT hd hnow)]
      simp only
      have hold : ((ents[j]?).map (·.key)).getD yk = e.key := by rw [← Array.getElem?_toList, hlj]; rfl
      rw [hold, run_bind (keyEq_stays hke)]
      exact run_setObj _ hh
    rw [run_bind hrun]; rfl
theorem delete_sound [HasGlob] (hT : T.fits P) (hR : RS κ w σ) (hl : Sees σ look) {t ty t' : TypeId} {m k : V} {ym yk : Value} {u : Upd} (h : deleteOf T t m k look = some u)
    (hm : RV κ w m ym) (hk : RV κ w k yk) :
    OpOk κ w σ ((do pure (Next.value (← Builtin.delete_ #[t, t'] ty #[ym, yk])) : Sem Next).run P w) (.tup []) u := by
  unfold deleteOf at h
  split at h
  case h_2 => simp at h
  rename_i id es kk et he
  obtain ⟨kt, d, b, ents, clock, hu, hd, hdk, rfl, rfl, ho, hb, hh, hents, hnS⟩ := entries_sound hR hl he hm hk
  have hinner : ∀ y ∈ es, y.2.under (alive σ) = true := by
    have := hR.inner _ _ ho
    simpa only [Ob.under, List.all_eq_true] using this
  cases hf : findKey yk es 0 with
  | none => simp [hf] at h
  | some r =>
  simp only [hf] at h
  have hrun : ∀ (r' : Option (Nat × Value)) (o : Obj), Instr.findNow d yk ents.toList 0 = some r' →
      o = (match r' with | some (i, _) => .map (ents.eraseIdxIfInBounds i) clock | none => .map ents clock) →
      (Builtin.delete_ #[t, t'] ty #[.map (some b), yk]).run P w = .ok (.tuple #[]) (put w b o) := by
    intro r' o hr' ho'
    unfold Builtin.delete_
    simp only [List.getElem?_toArray, List.getElem?_cons_zero, List.getElem?_cons_succ]
    rw [run_bind (run_underlying hT hu)]
    simp only
    rw [run_bind (run_getObj hh)]
    simp only
    rw [run_bind (run_checkKey hT hd hdk _), run_bind (run_findKey hT hd hr')]
    subst ho'
    cases r' with
    | none => simp only; rw [run_bind (run_setObj _ hh)]; rfl
    | some p => obtain ⟨i, v⟩ := p; simp only; rw [run_bind (run_setObj _ hh)]; rfl
  rcases find_sound hdk es ents.toList 0 r hents hf with ⟨rfl, hnow⟩ | ⟨j, x', e, rfl, hej, hlj, hke, _, hnow⟩
  · simp only [Option.some.injEq] at h; subst h
    obtain ⟨g1, g2⟩ := map_put (clock' := clock) hR ho hb hh hnS hents hinner
    exact ⟨_, _, κ, .inl (by rw [run_bind (hrun none _ hnow rfl)]; rfl), .tup _ _ rfl (fun i x v h => by simp at h), rfl, g1, g2⟩
  · simp only [Nat.zero_add, Option.some.injEq] at h hnow; subst h
    have hjl : j < es.length := (List.getElem?_eq_some_iff.1 hej).1
    have hents' : Ents κ w (es.eraseIdx j) (ents.eraseIdxIfInBounds j).toList := by
      have hjs : j < ents.size := by have := hents.1; simp at this; omega
      have hel : (ents.eraseIdxIfInBounds j).toList = ents.toList.eraseIdx j := by
        simp [Array.eraseIdxIfInBounds, hjs]
      rw [hel]
      refine ⟨by rw [List.length_eraseIdx, List.length_eraseIdx, hents.1], fun i k x hi => ?_⟩
      rw [List.getElem?_eraseIdx] at hi ⊢
      split at hi
      · rename_i hlt; rw [if_pos hlt]; exact hents.2 i k x hi
      · rename_i hlt; rw [if_neg hlt]; exact hents.2 (i + 1) k x hi
    obtain ⟨g1, g2⟩ := map_put (clock' := clock) hR ho hb hh hnS hents' (fun y hy => hinner y (List.mem_of_mem_eraseIdx hy))
    exact ⟨_, _, κ, .inl (by rw [run_bind (hrun _ _ hnow rfl)]; rfl), .tup _ _ rfl (fun i x v h => by simp at h), rfl, g1, g2⟩
end
end Go.Am
/- The abstract machine: soundness of lengths, conversions and scalars; then of every operation. -/
namespace Go.Am
section
variable {P : Program} {T : Tab} {κ : K} {w : World} {σ : St} {look : Look}
theorem len_sound [HasGlob] (hT : T.fits P) (hR : RS κ w σ) (hl : Sees σ look) {t ty : TypeId} {x : V} {y : Value} {n : Int} (h : lenOf T t look x = some n) (hx : RV κ w x y) :
    (Builtin.len_ #[t] ty #[y]).run P w = .ok (.int .i64 n) w := by
  unfold lenOf at h
  split at h
  · rename_i e hu
    have hy : ∃ a cap, y = .slice a n.toNat cap ∧ 0 ≤ n := by
      split at h
      · injection h with h; subst h
        cases hx with | one _ _ hc => cases hc with | d _ _ hd => cases hd <;> exact ⟨_, _, rfl, by simp⟩
      · injection h with h; subst h
        cases hx with | one _ _ hc => cases hc with | d _ _ hd => cases hd with | sc _ _ => exact ⟨_, _, rfl, by simp⟩
      · injection h with h; subst h
        cases hx with | one _ _ hc => cases hc with | arr _ _ _ a cap hs => exact ⟨_, _, rfl, by simp⟩
      · simp at h
    obtain ⟨a, cap, rfl, h0⟩ := hy
    unfold Builtin.len_
    simp only [List.getElem?_toArray, List.getElem?_cons_zero]
    rw [run_bind (run_underlying hT hu)]
    show Result.ok (Value.int .i64 (n.toNat : Int)) w = _
    rw [Int.toNat_of_nonneg h0]
  · rename_i hu
    split at h
    · injection h with h; subst h
      cases hx with | one _ _ hc => cases hc with | d _ _ hd => cases hd with | sc _ _ =>
      unfold Builtin.len_
      simp only [List.getElem?_toArray, List.getElem?_cons_zero]
      rw [run_bind (run_underlying hT hu)]; rfl
    · simp at h
  · rename_i k e hu
    split at h
    · split at h
      · rename_i es ho
        injection h with h; subst h
        cases hx with | one _ _ hc => cases hc with | map _ b hb =>
        obtain ⟨b', ents, clock, h1, h2, h3, _⟩ := hR.obj _ _ (hl _ _ ho)
        rw [hb] at h1; injection h1 with h1; subst h1
        unfold Builtin.len_
        simp only [List.getElem?_toArray, List.getElem?_cons_zero]
        rw [run_bind (run_underlying hT hu)]
        simp only
        rw [run_bind (run_getObj h2)]
        simp only [goInt, h3]; rfl
      · simp at h
    · simp at h
  · rename_i k e hu
    injection h with h; subst h
    unfold Builtin.len_
    simp only [List.getElem?_toArray, List.getElem?_cons_zero]
    rw [run_bind (run_underlying hT hu)]
    cases y <;> rfl
  · simp at h
/-! conversions -/
theorem bytesOf_spec : ∀ {rows : List (List D)} {bs : List UInt8}, bytesOf rows = some bs → ∃ ns : List Int, rows = ns.map (fun n => [D.sc (.int .u8 n)]) ∧ bs = ns.map fun n => UInt8.ofNat n.toNat
  | [], bs, h => by simp only [bytesOf, Option.some.injEq] at h; subst h; exact ⟨[], rfl, rfl⟩
  | r :: rs, bs, h => by
    unfold bytesOf at h
    split at h
    · rename_i x n; simp at n
    · rename_i x n r' heq
      injection heq with h1 h2; subst h1; subst h2
      cases hb : bytesOf rs with
      | none => simp [hb] at h
      | some bs' =>
        simp only [hb, Option.some.injEq] at h; subst h
        obtain ⟨ns, h1, h2⟩ := bytesOf_spec hb
        exact ⟨n :: ns, by rw [h1]; rfl, by rw [h2]; rfl⟩
    · simp at h
theorem foldl_push (ns : List Int) : ∀ (acc : List UInt8), ns.foldl (fun r n => r.push (UInt8.ofNat n.toNat)) (⟨acc.toArray⟩ : ByteArray) = ⟨(acc ++ ns.map fun n => UInt8.ofNat n.toNat).toArray⟩ := by
  induction ns with
  | nil => intro acc; simp
  | cons n r ih =>
    intro acc
    simp only [List.foldl_cons, List.map_cons]
    have : (⟨acc.toArray⟩ : ByteArray).push (UInt8.ofNat n.toNat) = ⟨(acc ++ [UInt8.ofNat n.toNat]).toArray⟩ := by
      simp [ByteArray.push]
    rw [this, ih]; simp
theorem bytes_string [HasGlob] (hR : RS κ w σ) (hl : Sees σ look) {x : V} {y : Value} {rows : List (List D)} {bs : List UInt8} (h : rowsIn look x = some rows) (hb : bytesOf rows = some bs) (hx : RV κ w x y)
    (hns : ∀ s, x ≠ .one (.d (.sc (.string s)))) : (Conv.bytesToString y).run P w = .ok (.string ⟨bs.toArray⟩) w := by
  obtain ⟨ns, hrows, hbs⟩ := bytesOf_spec hb
  have hok : rowsOk 1 rows = true := by
    subst hrows; simp only [rowsOk, List.all_eq_true]
    intro r hr; obtain ⟨n, _, rfl⟩ := List.mem_map.1 hr; rfl
  obtain ⟨vals, hsrc⟩ := src_of (P := P) hR hl h hx hok
  have hlen : rows.length = ns.length := by rw [hrows]; simp
  have hvals : vals = ns.map (Value.int .u8) := by
    apply List.ext_getElem?
    intro i
    have hvl : vals.length = ns.length := by rw [hsrc.size, hlen]; omega
    by_cases hi : i < ns.length
    · obtain ⟨v, hv, hd⟩ := hsrc.lies i 0 [D.sc (.int .u8 ns[i])] (.sc (.int .u8 ns[i])) (by rw [hrows]; simp [hi]) rfl
      simp only [Nat.mul_one, Nat.add_zero, List.getElem?_toArray] at hv
      rw [hv]
      cases hd with | sc _ _ => simp [hi]
    · rw [List.getElem?_eq_none (by omega), List.getElem?_eq_none (by simp; omega)]
  have hslice : ∃ a cap, y = .slice a rows.length cap := by
    unfold rowsIn at h
    split at h
    · injection h with h; subst h
      cases hx with | one _ _ hc => cases hc with | d _ _ hd => cases hd <;> exact ⟨_, _, rfl⟩
    · injection h with h; subst h
      cases hx with | one _ _ hc => cases hc with | d _ _ hd => cases hd with | sc _ _ => exact ⟨_, _, rfl⟩
    · exact absurd rfl (hns _)
    · rename_i id ep len
      cases hx with | one _ _ hc => cases hc with | arr _ _ _ a cap hs =>
      unfold rowsOf at h
      cases ho : look id with
      | none => simp [ho] at h
      | some o =>
      cases o <;> simp only [ho] at h <;> try simp at h
      rename_i ep' m sz rows'
      cases hc : (Nat.beq ep ep' && Nat.beq len rows'.length) with
      | false => rw [hc] at h; simp at h
      | true =>
        rw [hc] at h; injection h with h; subst h
        simp only [Bool.and_eq_true, Nat.beq_eq] at hc
        obtain ⟨_, rfl⟩ := hc
        exact ⟨_, _, rfl⟩
    · simp at h
  obtain ⟨a, cap, rfl⟩ := hslice
  cases a with
  | none =>
    have hc := hsrc.cells w rfl
    have : vals = [] := by
      have h1 : (pure #[] : Sem (Array Value)).run P w = .ok vals.toArray w := hc
      simp only [run_pure, Result.ok.injEq, and_true] at h1
      simpa using congrArg Array.toList h1.symm
    have hn : ns = [] := by rw [hvals] at this; simpa using this
    subst hn; subst hbs
    rfl
  | some a =>
    have hc := hsrc.cells w rfl
    have hc' : (loadCells a (rows.length * 1)).run P w = .ok vals.toArray w := hc
    rw [Nat.mul_one, hvals] at hc'
    rw [run_bytesToString w a rows.length cap ns hc']
    have := foldl_push ns []
    simp only [List.nil_append] at this
    rw [hbs, ← this]; rfl
theorem string_bytes [HasGlob] (hR : RS κ w σ) {e : TypeId} (s : ByteArray) :
    ∃ cap c f w', (Conv.stringToBytes e s).run P w = .ok (.slice (some ⟨w.heap.size, 0, none⟩) s.size cap) w' ∧ Grew w w' (.cells c e f) ∧ s.size ≤ cap ∧
      Lies κ.S w (s.data.toList.map fun b => [.sc (.int .u8 b.toNat)]) 1 c := by
  have _ := hR
  let q := Question.appendCap s.size 0 e
  let cap := q.cut (w.tape w.drawn q)
  have hcap : s.size ≤ cap := by simp only [cap, q, Question.cut]; omega
  let w1 : World := { w with drawn := w.drawn + 1 }
  have hch : (choose q).run P w = .ok cap w1 := by simp [choose, Sem.run, Question.forced, q, cap, w1]
  let c : Array Value := s.data.map (fun b => .int .u8 b.toNat) ++ Array.replicate (cap - s.size) (.int .u8 0)
  let w2 := alloc w1 (.cells c e)
  have hw2 : w2.heap[w.heap.size]? = some (.cells c e (0, 0)) := alloc_new w1 _
  let w3 := w2.freeze { block := w.heap.size, off := c.size } 1
  have hmark : (markStringish ⟨w.heap.size, 0, none⟩).run P w2 = .ok () w3 := by
    unfold markStringish
    have hsh : (shape w.heap.size).run P w2 = .ok (some (e, c.size)) w2 := by
      simp only [shape, Sem.run, World.shape?, hw2]
    rw [run_bind hsh]; rfl
  have hlt2 : w.heap.size < w2.heap.size := lt_of_heap hw2
  refine ⟨cap, c, (c.size, c.size + 1), w3, ?_, ⟨?_, ?_, ?_, rfl, rfl, rfl⟩, hcap, ?_⟩
  · unfold Conv.stringToBytes
    rw [run_bind hch]
    simp only
    refine (run_bind (run_newRow (w := w1) e c)).trans ?_
    refine (run_bind hmark).trans ?_
    rfl
  · simp only [w3, World.freeze, if_neg (show ¬ (1 = 0) by omega)]
    rw [Array.getElem?_modify, if_pos rfl, hw2]; rfl
  · simp only [w3, World.freeze, if_neg (show ¬ (1 = 0) by omega), Array.size_modify]
    exact alloc_size w1 _
  · intro b hb
    simp only [w3, World.freeze, if_neg (show ¬ (1 = 0) by omega)]
    rw [Array.getElem?_modify, if_neg (by omega)]
    exact alloc_old (w := w1) hb
  · intro i j row d hi hj
    simp only [List.getElem?_map, Option.map_eq_some_iff] at hi
    obtain ⟨b, hb, rfl⟩ := hi
    cases j with
    | succ j => simp at hj
    | zero =>
      simp at hj; subst hj
      refine ⟨.int .u8 b.toNat, ?_, .sc _ rfl⟩
      have hlt : i < s.data.size := by have := (List.getElem?_eq_some_iff.1 hb).1; simpa using this
      simp only [c, Nat.mul_one, Nat.add_zero]
      rw [Array.getElem?_append, if_pos (by simpa using hlt)]
      rw [Array.getElem?_toList] at hb
      rw [Array.getElem?_map, hb]; rfl
/-! scalars -/
theorem scalCells_sound : ∀ {cs : List Cell} {vs ys : List Value}, scalCells cs = some vs → RCs κ w cs ys → ys = vs
  | [], vs, ys, h, hc => by
    simp only [scalCells, Option.some.injEq] at h; subst h
    exact List.length_eq_zero_iff.1 (by have := hc.1; simpa using this.symm)
  | c :: cs, vs, [], h, hc => by have := hc.1; simp at this
  | c :: cs, vs, y :: ys, h, hc => by
    unfold scalCells at h
    split at h
    · rename_i heq; simp at heq
    · rename_i v r heq
      injection heq with h1 h2; subst h1; subst h2
      cases hr : scalCells cs with
      | none => simp [hr] at h
      | some vs' =>
        simp only [hr, Option.some.injEq] at h; subst h
        rw [scalCells_sound hr hc.tail]
        cases hc.head with | d _ _ hd => cases hd with | sc _ _ => rfl
    · simp at h
theorem scal_sound {v : V} {x y : Value} (h : v.scal = some y) (hv : RV κ w v x) : x = y := by
  unfold V.scal at h
  split at h
  · injection h with h; subst h
    cases hv with | one _ _ hc => cases hc with | d _ _ hd => cases hd with | sc _ _ => rfl
  · rename_i cs
    cases hc : scalCells cs with
    | none => simp [hc] at h
    | some vs =>
      simp only [hc, Option.some.injEq] at h; subst h
      cases hv with | agg _ ws hcs =>
      have := scalCells_sound hc hcs
      rw [← this]
  · simp at h
theorem scalOp_sound {ρ : Operand → Option V} {η : Operand → Value} {o : Oper} {v : V} (hρ : ∀ x v, ρ x = some v → RV κ w v (η x)) (h : scalOp P ρ o = some v) :
    ∃ y, (execOp η o).run P w = .ok (.value y) w ∧ RV κ w v y ∧ ∀ L, v.under L = true := by
  unfold scalOp at h
  split at h
  case h_2 => simp at h
  rename_i hall
  simp only [Bool.and_eq_true, List.all_eq_true] at hall
  obtain ⟨hsel, hall⟩ := hall
  split at h
  · rename_i y hp
    obtain ⟨h1, h2⟩ := ofValue_sound (κ := κ) (w := w) h
    refine ⟨y, ?_, h1, h2⟩
    rw [← pureRun_sound (w := w) hp]
    congr 1
    refine execOp_congr o (fun cs b e => by rw [e] at hsel; simp [isSelect] at hsel) fun x hx => ?_
    have := hall x (by simpa using hx)
    cases hv : ρ x with
    | none => simp [hv] at this
    | some v =>
      simp only [hv] at this ⊢
      cases hs : v.scal with
      | none => simp [hs] at this
      | some z => exact scal_sound hs (hρ x v hv)
  · simp at h
end
end Go.Am
