/- The abstract machine: what writes, and what makes an object. -/
import Derived.Test.YtfbocpbeogkapaaAmUpd
set_option linter.unusedVariables false
set_option linter.unusedSimpArgs false
namespace Go.Am

/-- what an operation comes to -/
def OpOk (κ : K) (w : World) (σ : St) (run : Result Next) (v : V) (u : Upd) : Prop :=
  ∃ x w' κ', (run = .ok (.value x) w' ∨ (run = .ok .skip w' ∧ x = Go.undef)) ∧ RV κ' w' v x ∧ v.under (alive (σ.upd u)) = true ∧
    Evo κ w σ κ' w' (σ.upd u) ∧ RS κ' w' (σ.upd u)

theorem OpOk.quiet {κ : K} {w : World} {σ : St} {run : Result Next} {v : V} {x : Value} (hR : RS κ w σ) (h : run = .ok (.value x) w) (hv : RV κ w v x) (hu : v.under (alive σ) = true) :
    OpOk κ w σ run v [] := ⟨x, w, κ, .inl h, hv, hu, .refl, hR⟩

/-- a look at the state -/
def Sees (σ : St) (look : Look) : Prop := ∀ id o, look id = some o → σ[id]? = some o

section
variable {P : Program} {T : Tab} {κ : K} {w : World} {σ : St} {look : Look}

theorem cells_sound {v : V} {x : Value} {cs : List Cell} (h : RV κ w v x) (hc : v.cells = some cs) : RCs κ w cs x.cells.toList := by
  cases h with
  | one c v h =>
    simp only [V.cells, Option.some.injEq] at hc; subst hc
    rw [plain_cells h.plain]; exact .cons h .nil
  | agg cs' vs h => simp only [V.cells, Option.some.injEq] at hc; subst hc; exact h
  | tup => simp [V.cells] at hc
  | undef => simp [V.cells] at hc
theorem cells_under {L : Nat → Bool} {v : V} {cs : List Cell} (h : v.under L = true) (hc : v.cells = some cs) : underAll L cs = true := by
  cases v <;> simp only [V.cells, Option.some.injEq, reduceCtorEq] at hc <;> subst hc
  · simpa [V.under, underAll] using h
  · exact h

theorem rows_sound (hR : RS κ w σ) (hl : Sees σ look) {id ep len : Nat} {rows : List (List D)} (h : rowsOf look false id ep len = some rows) {a : Option Addr} {cap : Nat}
    (hs : κ.sl id ep len = some (.slice a len cap)) : RD κ.S w (.list rows) (.slice a len cap) := by
  unfold rowsOf at h
  cases ho : look id with
  | none => simp [ho] at h
  | some o =>
  cases o <;> simp only [ho] at h <;> try simp at h
  rename_i ep' m sz rows'
  cases hc : (Nat.beq ep ep' && Nat.beq len rows'.length) && (!m || false) with
  | false => simp only [Bool.or_false] at hc; rw [hc] at h; simp at h
  | true =>
  have hc' := hc
  simp only [Bool.or_false] at hc; rw [hc] at h
  injection h with h; subst h
  simp only [Bool.and_eq_true, Nat.beq_eq, Bool.or_false] at hc'
  obtain ⟨⟨rfl, rfl⟩, hm⟩ := hc'
  obtain ⟨h0, h1⟩ := hR.obj _ _ (hl _ _ ho)
  rcases h1 with ⟨h1, h2⟩ | ⟨b, cap', c, E, h1, h2, h3, h4, h5, h6, h7⟩
  · subst h2; rw [hs] at h1; injection h1 with h1; injection h1 with h1 h2 h3; subst h1; exact .nil _ _
  · rw [hs] at h1; injection h1 with h1; injection h1 with h1 _ h1'; subst h1; subst h1'
    have hval : ∀ i j : Nat, ∃ v : Value, ∀ row d, rows'[i]? = some row → row[j]? = some d → c[i * sz + j]? = some v ∧ RD κ.S w d v := by
      intro i j
      cases hr : rows'[i]? with
      | none => exact ⟨Go.undef, fun _ _ h => by simp at h⟩
      | some row =>
        cases hd : row[j]? with
        | none => exact ⟨Go.undef, fun row' d h h' => by injection h with h; subst h; rw [hd] at h'; simp at h'⟩
        | some d =>
          obtain ⟨v, hv, hrd⟩ := h5 i j row d hr hd
          exact ⟨v, fun row' d' h h' => by injection h with h; subst h; rw [hd] at h'; injection h' with h'; subst h'; exact ⟨hv, hrd⟩⟩
    refine .list b 0 cap sz rows' (fun i j => (hval i j).choose) h3 (fun i row hi => h0.1 row (List.mem_of_getElem? hi)) (fun i j row d hi hj => ?_) (fun i j row d hi hj => ((hval i j).choose_spec row d hi hj).2)
    have hlt : i < rows'.length := (List.getElem?_eq_some_iff.1 hi).1
    have hjl : j < sz := by rw [← h0.1 row (List.mem_of_getElem? hi)]; exact (List.getElem?_eq_some_iff.1 hj).1
    refine ⟨(h7 (by simpa using hm) _).2 ?_, ?_⟩
    · have : (i + 1) * sz ≤ rows'.length * sz := Nat.mul_le_mul_right _ hlt
      rw [Nat.add_mul] at this; omega
    · rw [cells_of_block h2, Nat.zero_add]; exact ((hval i j).choose_spec row d hi hj).1

theorem data_sound (hR : RS κ w σ) (hl : Sees σ look) {c : Cell} {x : D} {v : Value} (h : dataOf look c = some x) (hc : RC κ w c v) : RD κ.S w x v := by
  unfold dataOf at h
  split at h
  · simp only [Option.some.injEq] at h; subst h
    cases hc with | d _ _ hd => cases hd with | sc _ _ => exact .nil _ _
  · simp only [Option.some.injEq] at h; subst h
    cases hc with | d _ _ hd => exact hd
  · rename_i id ep len
    split at h
    · rename_i rows hrows
      simp only [Option.some.injEq] at h; subst h
      cases hc with | arr _ _ _ a cap hs => exact rows_sound hR hl hrows hs
    · simp at h
  · simp at h

theorem dataAll_sound (hR : RS κ w σ) (hl : Sees σ look) : ∀ {cs : List Cell} {ds : List D} {vs : List Value}, dataAll look cs = some ds → RCs κ w cs vs →
    ds.length = vs.length ∧ ∀ (i : Nat) (d : D) (v : Value), ds[i]? = some d → vs[i]? = some v → RD κ.S w d v
  | [], ds, vs, h, hc => by
    simp only [dataAll, Option.some.injEq] at h; subst h
    have := hc.1; simp only [List.length_nil] at this
    exact ⟨by simpa using this, fun i d v h => by simp at h⟩
  | c :: cs, ds, [], h, hc => by have := hc.1; simp at this
  | c :: cs, ds, v :: vs, h, hc => by
    simp only [dataAll] at h
    cases h1 : dataOf look c with
    | none => simp [h1] at h
    | some x =>
    cases h2 : dataAll look cs with
    | none => simp [h1, h2] at h
    | some xs =>
    simp only [h1, h2, Option.some.injEq] at h; subst h
    obtain ⟨h3, h4⟩ := dataAll_sound hR hl h2 hc.tail
    refine ⟨by simp [h3], fun i d u hd hu => ?_⟩
    cases i with
    | zero => simp at hd hu; subst hd; subst hu; exact data_sound hR hl h1 hc.head
    | succ i => exact h4 i d u (by simpa using hd) (by simpa using hu)

/-! stores into cells -/
def putCells (c : Array Value) (k : Nat) (vs : List Value) : Array Value := (c.toList.take k ++ vs ++ c.toList.drop (k + vs.length)).toArray
theorem putCells_size {c : Array Value} {k : Nat} {vs : List Value} (h : k + vs.length ≤ c.size) : (putCells c k vs).size = c.size := by
  simp [putCells]; omega
theorem putCells_get {c : Array Value} {k : Nat} {vs : List Value} (h : k + vs.length ≤ c.size) (i : Nat) :
    (putCells c k vs)[i]? = if i < k then c[i]? else if i < k + vs.length then vs[i - k]? else c[i]? := by
  have hk : k ≤ c.toList.length := by simp; omega
  simp only [putCells, List.getElem?_toArray, List.append_assoc]
  rw [List.getElem?_append, List.length_take, Nat.min_eq_left hk]
  by_cases h1 : i < k
  · rw [if_pos h1, if_pos h1, List.getElem?_take, if_pos h1, Array.getElem?_toList]
  · rw [if_neg h1, if_neg h1, List.getElem?_append]
    by_cases h2 : i < k + vs.length
    · rw [if_pos (by omega), if_pos h2]
    · rw [if_neg (by omega), if_neg h2, List.getElem?_drop, Array.getElem?_toList]
      congr 1; omega

theorem setCell_put {b o : Nat} {c : Array Value} {E : TypeId} {f : Nat × Nat} (h : w.heap[b]? = some (.cells c E f)) (v : Value) :
    w.setCell ⟨b, o, none⟩ v = put w b (.cells (c.setIfInBounds o v) E f) := by
  simp only [World.setCell, put]
  congr 1
  apply Array.ext_getElem?
  intro i
  rw [Array.getElem?_modify, Array.getElem?_setIfInBounds]
  by_cases hi : b = i
  · subst hi
    rw [h]; simp [lt_of_heap h]
  · simp [hi]

theorem put_self {b : Nat} {o : Obj} (h : w.heap[b]? = some o) : put w b o = w := by
  obtain ⟨heap, tape, drawn, os, output⟩ := w
  simp only [put]
  congr 1
  apply Array.ext_getElem?
  intro i
  rw [Array.getElem?_setIfInBounds]
  by_cases hi : b = i
  · subst hi; simp only [if_true]; simp only at h; rw [h]; simp; exact lt_of_heap (w := ⟨heap, tape, drawn, os, output⟩) h
  · simp [hi]

theorem putCells_nil (c : Array Value) (k : Nat) : putCells c k [] = c := by
  apply Array.ext'
  simp [putCells]

theorem putCells_cons {c : Array Value} {k : Nat} {v : Value} {vs : List Value} (h : k + (v :: vs).length ≤ c.size) :
    putCells (c.setIfInBounds k v) (k + 1) vs = putCells c k (v :: vs) := by
  simp only [List.length_cons] at h
  apply Array.ext_getElem?
  intro i
  rw [putCells_get (by simp; omega), putCells_get (by simpa using h)]
  simp only [Array.getElem?_setIfInBounds, List.length_cons]
  by_cases h1 : i < k
  · rw [if_pos (by omega), if_neg (by omega), if_pos h1]
  · by_cases h2 : i = k
    · subst h2
      rw [if_pos (by omega), if_pos rfl, if_pos (by omega), if_neg (by omega), if_pos (by omega)]; simp
    · by_cases h3 : i < k + (vs.length + 1)
      · rw [if_neg (by omega), if_pos (by omega), if_neg h1, if_pos h3]
        rw [show i - k = (i - (k + 1)) + 1 from by omega]; simp
      · rw [if_neg (by omega), if_neg (by omega), if_neg (by omega), if_neg h1, if_neg h3]

theorem run_storeCells {E : TypeId} {b o : Nat} : ∀ (vs : List Value) (i : Nat) (w : World) (c : Array Value), w.heap[b]? = some (.cells c E (0, 0)) →
    allPlain vs = true → o + i + vs.length ≤ c.size →
    (storeCells ⟨b, o, none⟩ vs i).run P w = .ok () (put w b (.cells (putCells c (o + i) vs) E (0, 0)))
  | [], i, w, c, h, _, _ => by
    rw [putCells_nil, put_self h]; rfl
  | v :: vs, i, w, c, h, hp, hle => by
    simp only [Am.allPlain, Bool.and_eq_true] at hp
    simp only [List.length_cons] at hle
    unfold storeCells
    rw [addr_add]
    have hlt : o + i < c.size := by omega
    have h0 : w.cell? ⟨b, o + i, none⟩ = some c[o + i] := by
      have := cells_of_block h (o + i)
      simpa [cellAt, hlt] using this
    have hf : w.frozen? ⟨b, o + i, none⟩ = false := by simp [World.frozen?, h]
    rw [run_bind (run_store h0 hf (fun vs e => by subst e; simp [Am.plain] at hp) (fun vs e => by subst e; simp [Am.plain] at hp))]
    rw [setCell_put h]
    rw [run_storeCells vs (i + 1) _ (c.setIfInBounds (o + i) v) (put_same h) hp.2 (by simp; omega)]
    rw [put_put, show o + (i + 1) = o + i + 1 from by omega, putCells_cons (by simp only [List.length_cons]; omega)]

theorem RCs.put {cs xs : List Cell} {c : Array Value} {vs : List Value} {off : Nat} (h : RCs κ w cs c.toList) (k : RCs κ w xs vs) (_hle : off + xs.length ≤ cs.length) :
    RCs κ w (setCells cs off xs) (putCells c off vs).toList := by
  have : (putCells c off vs).toList = c.toList.take off ++ vs ++ c.toList.drop (off + vs.length) := by simp [putCells]
  rw [this, setCells, ← k.1]
  exact ((h.take off).append k).append (h.drop _)

theorem run_storeVar (hT : T.fits P) {t n : Nat} (hn : T.size t = some n) {b o : Nat} {c : Array Value} {E : TypeId} (hh : w.heap[b]? = some (.cells c E (0, 0)))
    {y : Value} (hy : y.cells.size = n) (hp : allPlain y.cells.toList = true) (hle : o + n ≤ c.size) :
    (storeVar t ⟨b, o, none⟩ y).run P w = .ok () (put w b (.cells (putCells c o y.cells.toList) E (0, 0))) := by
  unfold storeVar
  rw [run_bind (run_sizeOf hT hn)]
  rw [if_neg (by simp [hy])]
  have := run_storeCells (P := P) (E := E) (b := b) (o := o) y.cells.toList 0 w c hh hp (by simp [hy]; omega)
  simpa using this

theorem store_sound (hT : T.fits P) (hR : RS κ w σ) (hl : Sees σ look) {t : TypeId} {a : Cell} {x y : Value} {v : V} {cs : List Cell} {u : Upd}
    (h : storeTo T t a cs look = some u) (ha : RC κ w a x) (hv : RV κ w v y) (hc : v.cells = some cs) (hu : v.under (alive σ) = true) :
    OpOk κ w σ ((do Instr.storeAt t x y; pure Next.skip : Sem Next).run P w) .undef u := by
  have hcs := cells_sound hv hc
  have hcu := cells_under hu hc
  unfold storeTo at h
  cases hn : T.size t with
  | none => simp [hn] at h
  | some n =>
  simp only [hn] at h
  cases hnl : Nat.beq n cs.length with
  | false => rw [hnl] at h; simp at h
  | true =>
  rw [hnl] at h; simp only [cond_true] at h
  have hnl : n = cs.length := by simpa using hnl
  have hys : y.cells.size = n := by rw [hnl, hcs.1]; simp
  cases ha with
  | d => simp at h
  | arr => simp at h
  | rptr => simp at h
  | map => simp at h
  | fn => simp at h
  | ptr id off b hb =>
    simp only at h
    cases ho : look id with
    | none => simp [ho] at h
    | some o =>
    cases o <;> simp only [ho] at h <;> try simp at h
    rename_i cells
    have ho' := hl _ _ ho
    obtain ⟨b', c, E, hb', hh, hcc, hnS⟩ := hR.obj _ _ ho'
    rw [hb] at hb'; injection hb' with hb'; subst hb'
    cases hle : Nat.ble (off + n) cells.length with
    | false => rw [hle] at h; simp at h
    | true =>
    rw [hle] at h; injection h with h; subst h
    have hle := Nat.le_of_ble_eq_true hle
    have hle2 : off + n ≤ c.size := by have := hcc.1; simp at this; omega
    have hrun := run_storeVar (P := P) hT hn hh hys hcs.allPlain hle2
    have hK : ∀ b' o, κ.S b' o → cellAt (put w b (.cells (putCells c off y.cells.toList) E (0, 0))) b' o = cellAt w b' o := fun b' o hs =>
      cell_of_heap (put_other (fun e => by subst e; exact hnS o hs)) o
    have hs : Stays κ w κ (put w b (.cells (putCells c off y.cells.toList) E (0, 0))) (alive σ) := ⟨fun _ _ h => h, hK, fun _ _ => rfl, fun _ _ _ _ _ h => h⟩
    have hset : underAll (alive σ) (setCells cells off cs) = true :=
      underAll_append (underAll_append (underAll_take _ (hR.inner _ _ ho')) hcu) (underAll_drop _ (hR.inner _ _ ho'))
    have hup := RS.update (κ' := κ) (w' := put w b (.cells (putCells c off y.cells.toList) E (0, 0))) hR (id := id) (o1 := .var (setCells cells off cs)) (B := b) ho' (.inl (by simpa [blockOf] using hb))
      (fun _ _ h => h) hK (fun _ _ => rfl) (fun _ _ _ _ _ h => h) (fun _ _ _ _ _ => rfl) (fun _ _ h => .inl h) (fun b' _ hne => put_other hne) (by rw [put_size]; exact Nat.le_refl _)
      (fun o hs => absurd hs (hnS o)) rfl rfl rfl (by simp)
      ⟨b, putCells c off y.cells.toList, E, hb, put_same hh, (hcc.stays hs (hR.inner _ _ ho')).put (hcs.stays hs hcu) (by omega), hnS⟩
      (fun b' h => by simp only [blockOf] at h; rw [hb] at h; injection h with h; exact h.symm)
      (underAll_mono (fun i hi => alive_set (by simp) hi) hset)
    refine ⟨Go.undef, _, κ, .inr ⟨?_, rfl⟩, .undef, rfl, hup.1, hup.2⟩
    have : (Instr.storeAt t (.pointer (some ⟨b, off, none⟩)) y).run P w = .ok () (put w b (.cells (putCells c off y.cells.toList) E (0, 0))) := hrun
    rw [run_bind this]; rfl
  | eptr id ep len sz idx off b cap hs0 =>
    simp only at h
    cases ho : look id with
    | none => simp [ho] at h
    | some o =>
    cases o <;> simp only [ho] at h <;> try simp at h
    rename_i ep' m sz' rows
    cases m with
    | false => simp at h
    | true =>
    cases hds : dataAll look cs with
    | none => simp [hds] at h
    | some ds =>
    simp only [hds] at h
    have ho' := hl _ _ ho
    cases hc1 : (Nat.beq ep ep' && Nat.beq len rows.length) && Nat.beq sz sz' with
    | false => rw [hc1] at h; simp at h
    | true =>
    rw [hc1] at h; simp only [cond_true] at h
    simp only [Bool.and_eq_true, Nat.beq_eq] at hc1
    obtain ⟨⟨rfl, rfl⟩, rfl⟩ := hc1
    cases hrow : rows[idx]? with
    | none => rw [hrow] at h; simp at h
    | some row =>
    rw [hrow] at h; simp only at h
    cases hle : Nat.ble (off + n) row.length with
    | false => rw [hle] at h; simp at h
    | true =>
    rw [hle] at h; simp only [cond_true, Option.some.injEq] at h
    subst h
    have hle' : off + n ≤ row.length := Nat.le_of_ble_eq_true hle
    obtain ⟨hsz, hob⟩ := hR.obj _ _ ho'
    rcases hob with ⟨h0, h1⟩ | ⟨b', cap', c, E, h0, hh, h1, h2, h3, h6, h7⟩
    · subst h1; simp at hrow
    have h00 := h0
    rw [hs0] at h0; injection h0 with h0; injection h0 with h0 _ h0'; injection h0 with h0; injection h0 with h0; subst h0; subst h0'
    have hnS := h6 rfl
    have hrl : row.length = sz := hsz.1 row (List.mem_of_getElem? hrow)
    have hidx : idx < rows.length := (List.getElem?_eq_some_iff.1 hrow).1
    have hmul : (idx + 1) * sz ≤ cap * sz := Nat.mul_le_mul_right _ (by omega)
    rw [Nat.add_mul] at hmul
    have hle2 : idx * sz + off + n ≤ c.size := by omega
    have hrun := run_storeVar (P := P) hT hn hh hys hcs.allPlain hle2
    generalize hw' : put w b (.cells (putCells c (idx * sz + off) y.cells.toList) E (0, 0)) = w' at hrun
    have hK : ∀ b' o, κ.S b' o → cellAt w' b' o = cellAt w b' o := fun b' o hs => by
      subst hw'; exact cell_of_heap (put_other (fun e => by subst e; exact hnS o hs)) o
    obtain ⟨hdl, hdr⟩ := dataAll_sound hR hl hds hcs
    have hdn : ds.length = n := by rw [hdl]; simp [hys]
    have hvl : y.cells.toList.length = n := by simp [hys]
    have hup := RS.update (κ' := κ) (w' := w') hR (id := id) (o1 := .arr ep true sz (rows.set idx (setD row off ds))) (B := b) ho' (.inl (by simp [blockOf, h00]))
      (fun _ _ h => h) hK (fun _ _ => rfl) (fun _ _ _ _ _ h => h) (fun _ _ _ _ _ => rfl) (fun _ _ h => .inl h) (fun b' _ hne => by subst hw'; exact put_other hne) (by subst hw'; rw [put_size]; exact Nat.le_refl _)
      (fun o hs => absurd hs (hnS o)) (by subst hw'; rfl) (by subst hw'; rfl) (by subst hw'; rfl) (by simp)
      (by
        refine ⟨⟨fun r hr => ?_, fun ep' l v hv => by rw [List.length_set]; exact hsz.2 ep' l v hv⟩, .inr ⟨b, cap, putCells c (idx * sz + off) y.cells.toList, E, by rw [List.length_set]; exact h00, by subst hw'; exact put_same hh, by rw [List.length_set]; exact h1, by rw [putCells_size (by rw [hvl]; exact hle2)]; exact h2, ?_, fun _ => hnS, fun hm => by simp at hm⟩⟩
        · obtain ⟨i, hi⟩ := List.mem_iff_getElem?.1 hr
          by_cases he : idx = i
          · subst he
            simp only [List.getElem?_set_self hidx, Option.some.injEq] at hi; subst hi
            simp only [setD, List.length_append, List.length_take, List.length_drop]; omega
          · rw [List.getElem?_set_ne he] at hi
            exact hsz.1 r (List.mem_of_getElem? hi)
        · intro i j r d hi hj
          rw [putCells_get (by rw [hvl]; exact hle2), hvl]
          by_cases he : idx = i
          · subst he
            simp only [List.getElem?_set_self hidx, Option.some.injEq] at hi
            · subst hi
              simp only [setD, List.append_assoc, hdn] at hj
              rw [List.getElem?_append, List.length_take, Nat.min_eq_left (by omega)] at hj
              by_cases hj1 : j < off
              · rw [if_pos hj1, List.getElem?_take, if_pos hj1] at hj
                obtain ⟨v, hv, hrd⟩ := h3 idx j row d hrow hj
                exact ⟨v, by rw [if_pos (by omega)]; exact hv, hrd.mono (fun _ _ h => h) hK⟩
              · rw [if_neg hj1, List.getElem?_append, hdn] at hj
                by_cases hj2 : j < off + n
                · rw [if_pos (by omega)] at hj
                  have hlt : j - off < y.cells.toList.length := by omega
                  refine ⟨y.cells.toList[j - off], ?_, (hdr (j - off) d _ hj (List.getElem?_eq_getElem hlt)).mono (fun _ _ h => h) hK⟩
                  rw [if_neg (by omega), if_pos (by omega), show idx * sz + j - (idx * sz + off) = j - off from by omega, List.getElem?_eq_getElem hlt]
                · rw [if_neg (by omega), List.getElem?_drop, show off + n + (j - off - n) = j from by omega] at hj
                  obtain ⟨v, hv, hrd⟩ := h3 idx j row d hrow hj
                  exact ⟨v, by rw [if_neg (by omega), if_neg (by omega)]; exact hv, hrd.mono (fun _ _ h => h) hK⟩
          · have hne := he
            rw [List.getElem?_set_ne he] at hi
            obtain ⟨v, hv, hrd⟩ := h3 i j r d hi hj
            have hjl : j < sz := by rw [← hsz.1 r (List.mem_of_getElem? hi)]; exact (List.getElem?_eq_some_iff.1 hj).1
            refine ⟨v, ?_, hrd.mono (fun _ _ h => h) hK⟩
            rcases Nat.lt_or_gt_of_ne hne with hlt | hgt
            · have : (idx + 1) * sz ≤ i * sz := Nat.mul_le_mul_right _ hlt
              rw [Nat.add_mul] at this
              rw [if_neg (by omega), if_neg (by omega)]; exact hv
            · have : (i + 1) * sz ≤ idx * sz := Nat.mul_le_mul_right _ hgt
              rw [Nat.add_mul] at this
              rw [if_pos (by omega)]; exact hv)
      (fun b' h => by simp only [blockOf, List.length_set, h00] at h; simp at h; exact h.symm)
      rfl
    refine ⟨Go.undef, w', κ, .inr ⟨?_, rfl⟩, .undef, rfl, hup.1, hup.2⟩
    have : (Instr.storeAt t (.pointer (some ⟨b, idx * sz + off, none⟩)) y).run P w = .ok () w' := hrun
    rw [run_bind this]; rfl
end
end Go.Am
