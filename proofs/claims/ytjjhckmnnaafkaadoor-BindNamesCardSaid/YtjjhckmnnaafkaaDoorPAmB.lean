/- A part of a proof: functions of the program walked over the abstract machine, and what they compute. -/
import Derived.Test.YtjjhckmnnaafkaaDoorPAmA
set_option linter.unusedVariables false
set_option linter.unusedSimpArgs false
/- The abstract machine: each operation does in the model what it does here. Part 1: reading, and what makes no object. -/
namespace Go.Am
theorem RD.plain {S w x v} (h : RD S w x v) : plain v = true := by cases h <;> first | rfl | assumption
theorem RC.plain {κ w c v} (h : RC κ w c v) : plain v = true := by
  cases h <;> first | rfl | (rename_i h; exact h.plain)
theorem plain_cells {v : Value} (h : plain v = true) : v.cells = #[v] := by cases v <;> first | rfl | (simp [Am.plain] at h)
theorem RCs.allPlain {κ w} : ∀ {cs : List Cell} {vs : List Value}, RCs κ w cs vs → allPlain vs = true
  | [], [], _ => rfl
  | [], _ :: _, h => by have := h.1; simp at this
  | _ :: _, [], h => by have := h.1; simp at this
  | c :: cs, v :: vs, h => by
    simp only [Am.allPlain, Bool.and_eq_true]
    refine ⟨(h.2 0 c v rfl rfl).plain, RCs.allPlain (cs := cs) ⟨by have := h.1; simpa using this, fun i c' v' h1 h2 => h.2 (i + 1) c' v' (by simpa using h1) (by simpa using h2)⟩⟩
theorem RCs.nil {κ w} : RCs κ w [] [] := ⟨rfl, fun i c v h => by simp at h⟩
theorem RCs.cons {κ w c v cs vs} (h : RC κ w c v) (k : RCs κ w cs vs) : RCs κ w (c :: cs) (v :: vs) :=
  ⟨by simp [k.1], fun i c' v' h1 h2 => by
    cases i with
    | zero => simp at h1 h2; subst h1; subst h2; exact h
    | succ i => exact k.2 i c' v' (by simpa using h1) (by simpa using h2)⟩
theorem RCs.head {κ w c v cs vs} (h : RCs κ w (c :: cs) (v :: vs)) : RC κ w c v := h.2 0 c v rfl rfl
theorem RCs.tail {κ w c v cs vs} (h : RCs κ w (c :: cs) (v :: vs)) : RCs κ w cs vs :=
  ⟨by have := h.1; simpa using this, fun i c' v' h1 h2 => h.2 (i + 1) c' v' (by simpa using h1) (by simpa using h2)⟩
theorem RCs.drop {κ w} (n : Nat) {cs : List Cell} {vs : List Value} (h : RCs κ w cs vs) : RCs κ w (cs.drop n) (vs.drop n) :=
  ⟨by simp [h.1], fun i c v h1 h2 => h.2 (n + i) c v (by simpa using h1) (by simpa using h2)⟩
theorem RCs.take {κ w} (n : Nat) {cs : List Cell} {vs : List Value} (h : RCs κ w cs vs) : RCs κ w (cs.take n) (vs.take n) :=
  ⟨by simp [h.1], fun i c v h1 h2 => by
    rw [List.getElem?_take] at h1 h2
    split at h1
    · rename_i hi; rw [if_pos hi] at h2; exact h.2 i c v h1 h2
    · simp at h1⟩
theorem RCs.append {κ w} {cs cs' : List Cell} {vs vs' : List Value} (h : RCs κ w cs vs) (k : RCs κ w cs' vs') : RCs κ w (cs ++ cs') (vs ++ vs') :=
  ⟨by simp [h.1, k.1], fun i c v h1 h2 => by
    rw [List.getElem?_append] at h1 h2
    rw [← h.1] at h2
    split at h1
    · rename_i hi; rw [if_pos hi] at h2; exact h.2 i c v h1 h2
    · rename_i hi; rw [if_neg hi] at h2; exact k.2 _ c v h1 h2⟩
/-- a value out of cells -/
def ofMk (g : Bool) (vs : List Value) : Value := if g then .agg vs.toArray else vs.headD undef
theorem mk_sound {κ w} {g : Bool} {cs : List Cell} {v : V} {vs : List Value} (h : mk g cs = some v) (hc : RCs κ w cs vs) : RV κ w v (ofMk g vs) := by
  unfold mk at h
  cases g with
  | true => simp only [Option.some.injEq] at h; subst h; exact .agg _ _ (by simpa using hc)
  | false =>
    cases cs with
    | nil => simp at h
    | cons c r =>
      cases r with
      | cons _ _ => simp at h
      | nil =>
        simp only [Option.some.injEq] at h; subst h
        cases vs with
        | nil => have := hc.1; simp at this
        | cons y ys => exact .one c _ hc.head
theorem mk_false {cs : List Cell} {v : V} (h : mk false cs = some v) : cs.length = 1 := by
  unfold mk at h
  cases cs with
  | nil => simp at h
  | cons c r => cases r with
    | nil => rfl
    | cons _ _ => simp at h
theorem mk_under {L : Nat → Bool} {g : Bool} {cs : List Cell} {v : V} (h : mk g cs = some v) (hc : underAll L cs = true) : v.under L = true := by
  unfold mk at h
  cases g with
  | true => simp only [Option.some.injEq] at h; subst h; exact hc
  | false =>
    cases cs with
    | nil => simp at h
    | cons c r => cases r with
      | cons _ _ => simp at h
      | nil => simp only [Option.some.injEq] at h; subst h; simpa [V.under, underAll] using hc
theorem underAll_drop {L : Nat → Bool} (n : Nat) {cs : List Cell} (h : underAll L cs = true) : underAll L (cs.drop n) = true :=
  underAll_of fun i c hc => under_of_mem h (n + i) c (by simpa using hc)
theorem underAll_take {L : Nat → Bool} (n : Nat) {cs : List Cell} (h : underAll L cs = true) : underAll L (cs.take n) = true :=
  underAll_of fun i c hc => under_of_mem h i c (by rw [List.getElem?_take] at hc; split at hc <;> simp_all)
theorem underAll_d {L : Nat → Bool} (ds : List D) : underAll L (ds.map .d) = true :=
  underAll_of fun i c hc => by
    simp only [List.getElem?_map, Option.map_eq_some_iff] at hc
    obtain ⟨x, _, rfl⟩ := hc; rfl
theorem underAll_append {L : Nat → Bool} {a b : List Cell} (h : underAll L a = true) (k : underAll L b = true) : underAll L (a ++ b) = true := by
  induction a with
  | nil => exact k
  | cons c r ih =>
    simp only [underAll, Bool.and_eq_true, List.cons_append] at h ⊢
    exact ⟨h.1, ih h.2⟩
section
variable {P : Program} {T : Tab} {κ : K} {w : World} {σ : St} {look : Look}
/-- a variable is read -/
theorem run_loadVar (hT : T.fits P) {t n : Nat} {g : Bool} (hn : T.size t = some n) (hg : T.agg t = some g) (b o : Nat) (vs : List Value) (hl : vs.length = n)
    (h1 : g = false → n = 1) (h : ∀ (j : Nat) (v : Value), vs[j]? = some v → cellAt w b (o + j) = some v) :
    (loadVar t ⟨b, o, none⟩).run P w = .ok (ofMk g vs) w := by
  unfold loadVar
  rw [run_bind (run_isAgg hT hg)]
  cases g with
  | true =>
    simp only [if_true]
    rw [run_bind (run_sizeOf hT hn), run_bind (run_loadCells b o n vs hl h)]; rfl
  | false =>
    simp only [Bool.false_eq_true, if_false]
    have : vs.length = 1 := by rw [hl, h1 rfl]
    match vs, this with
    | [v], _ =>
      have := h 0 v rfl
      exact run_load this
theorem cells_of_block {b : Nat} {c : Array Value} {E : TypeId} {f : Nat × Nat} (h : w.heap[b]? = some (.cells c E f)) (o : Nat) : cellAt w b o = c[o]? := by
  simp [cellAt, World.cell?, h]
theorem load_sound [HasGlob] (hT : T.fits P) (hR : RS κ w σ) (hl : ∀ id o, look id = some o → σ[id]? = some o) {t : TypeId} {a : Cell} {x : Value} {v : V}
    (h : loadFrom T t a look = some v) (ha : RC κ w a x) :
    ∃ y, (Instr.loadAt t x).run P w = .ok y w ∧ RV κ w v y ∧ v.under (alive σ) = true := by
  unfold loadFrom at h
  cases hn : T.size t with
  | none => simp [hn] at h
  | some n =>
  cases hg : T.agg t with
  | none => simp [hn, hg] at h
  | some g =>
  simp only [hn, hg] at h
  cases ha with
  | d x v hrd => simp at h
  | arr => simp at h
  | map => simp at h
  | fn => simp at h
  | ptr id off b hb =>
    simp only at h
    cases ho : look id with
    | none => simp [ho] at h
    | some o =>
    cases o <;> simp only [ho] at h <;> try simp at h
    rename_i cells
    have ho' := hl _ _ ho
    obtain ⟨b', c, E, hb', hh, hc, _⟩ := hR.obj _ _ ho'
    rw [hb] at hb'; injection hb' with hb'; subst hb'
    cases hle : Nat.ble (off + n) cells.length with
    | false => rw [hle] at h; simp at h
    | true =>
    rw [hle] at h; simp only [cond_true] at h
    have hle' : off + n ≤ cells.length := Nat.le_of_ble_eq_true hle
    have hcs := (hc.drop off).take n
    refine ⟨ofMk g ((c.toList.drop off).take n), ?_, mk_sound h hcs, mk_under h (underAll_take _ (underAll_drop _ (hR.inner _ _ ho')))⟩
    show (do let a ← Instr.sureAddr (.pointer (some ⟨b, off, none⟩)); loadVar t a : Sem Value).run P w = _
    refine (run_bind (a := (⟨b, off, none⟩ : Addr)) rfl).trans ?_
    refine run_loadVar hT hn hg b off _ ?_ ?_ ?_
    · simp [← hc.1]; omega
    · intro hf; subst hf
      have := mk_false h; simp at this; omega
    · intro j v hj
      rw [cells_of_block hh]
      rw [List.getElem?_take] at hj
      split at hj
      · simpa using hj
      · simp at hj
  | rptr ds b off hd =>
    simp only at h
    cases hle : Nat.ble n ds.length with
    | false => rw [hle] at h; simp at h
    | true =>
    rw [hle] at h; simp only [cond_true] at h
    have hle' : n ≤ ds.length := Nat.le_of_ble_eq_true hle
    have key : ∀ m, m ≤ ds.length → ∃ vs : List Value, vs.length = m ∧ (∀ (j : Nat) (v : Value), vs[j]? = some v → cellAt w b (off + j) = some v) ∧ RCs κ w ((ds.take m).map .d) vs := by
      intro m
      induction m with
      | zero => intro _; exact ⟨[], rfl, fun j v hj => by simp at hj, by simpa using RCs.nil⟩
      | succ m ih =>
        intro hm
        obtain ⟨vs, h1, h2, h3⟩ := ih (by omega)
        have hlt : m < ds.length := by omega
        obtain ⟨_, v, hv, hrd⟩ := hd m ds[m] (List.getElem?_eq_getElem hlt)
        refine ⟨vs ++ [v], by simp [h1], fun j u hj => ?_, ?_⟩
        · rw [List.getElem?_append] at hj
          split at hj
          · exact h2 j u hj
          · rename_i hnl
            have hjm : j = m := by
              by_cases he : j - vs.length = 0
              · omega
              · obtain ⟨k, hk⟩ : ∃ k, j - vs.length = k + 1 := ⟨j - vs.length - 1, by omega⟩
                rw [hk] at hj; simp at hj
            subst hjm
            rw [h1] at hj; simp at hj; subst hj; exact hv
        · rw [List.take_succ_eq_append_getElem hlt, List.map_append]
          exact h3.append (.cons (.d _ _ hrd) .nil)
    obtain ⟨vs, h1, h2, h3⟩ := key n hle'
    refine ⟨ofMk g vs, ?_, mk_sound h h3, mk_under h (underAll_d _)⟩
    refine (run_bind (a := (⟨b, off, none⟩ : Addr)) rfl).trans ?_
    refine run_loadVar hT hn hg b off _ h1 ?_ h2
    intro hf; subst hf
    have := mk_false h; simp at this; omega
  | eptr id ep len sz idx off b cap hs =>
    simp only at h
    cases ho : look id with
    | none => simp [ho] at h
    | some o =>
    cases o <;> simp only [ho] at h <;> try simp at h
    rename_i ep' m sz' rows
    have ho' := hl _ _ ho
    cases hc1 : (Nat.beq ep ep' && Nat.beq len rows.length) && Nat.beq sz sz' with
    | false => rw [hc1] at h; simp at h
    | true =>
    rw [hc1] at h; simp only [cond_true] at h
    simp only [Bool.and_eq_true, Nat.beq_eq] at hc1
    obtain ⟨⟨rfl, rfl⟩, rfl⟩ := hc1
    cases hrow : rows[idx]? with
    | none => rw [hrow] at h; simp at h
    | some row =>
    rw [hrow] at h; simp only at h
    cases hle : Nat.ble (off + n) row.length with
    | false => rw [hle] at h; simp at h
    | true =>
    rw [hle] at h; simp only [cond_true] at h
    have hle' : off + n ≤ row.length := Nat.le_of_ble_eq_true hle
    obtain ⟨hsz, hob⟩ := hR.obj _ _ ho'
    rcases hob with ⟨h0, h1⟩ | ⟨b', cap', c, E, h0, hh, h1, h2, h3, _⟩
    · subst h1; simp at hrow
    rw [hs] at h0; injection h0 with h0; injection h0 with h0 _ h0'; injection h0 with h0; injection h0 with h0; subst h0; subst h0'
    have key : ∀ k, k ≤ n → ∃ vs : List Value, vs.length = k ∧ (∀ (j : Nat) (v : Value), vs[j]? = some v → cellAt w b (idx * sz + off + j) = some v) ∧ RCs κ w (((row.drop off).take k).map .d) vs := by
      intro k
      induction k with
      | zero => intro _; exact ⟨[], rfl, fun j v hj => by simp at hj, by simpa using RCs.nil⟩
      | succ k ih =>
        intro hm
        obtain ⟨vs, g1, g2, g3⟩ := ih (by omega)
        have hlt : k < (row.drop off).length := by simp; omega
        have hlt' : off + k < row.length := by omega
        obtain ⟨v, hv, hrd⟩ := h3 idx (off + k) row row[off + k] hrow (List.getElem?_eq_getElem hlt')
        refine ⟨vs ++ [v], by simp [g1], fun j u hj => ?_, ?_⟩
        · rw [List.getElem?_append] at hj
          split at hj
          · exact g2 j u hj
          · rename_i hnl
            have hjm : j = k := by
              by_cases he : j - vs.length = 0
              · omega
              · obtain ⟨q, hq⟩ : ∃ q, j - vs.length = q + 1 := ⟨j - vs.length - 1, by omega⟩
                rw [hq] at hj; simp at hj
            subst hjm
            rw [g1] at hj; simp at hj; subst hj
            rw [cells_of_block hh, Nat.add_assoc]; exact hv
        · rw [List.take_succ_eq_append_getElem hlt, List.map_append]
          refine g3.append (.cons (.d _ _ ?_) .nil)
          simpa using hrd
    obtain ⟨vs, g1, g2, g3⟩ := key n (Nat.le_refl _)
    simp only [← List.map_drop, ← List.map_take] at h
    refine ⟨ofMk g vs, ?_, mk_sound h g3, mk_under h (underAll_d _)⟩
    refine (run_bind (a := (⟨b, idx * sz + off, none⟩ : Addr)) rfl).trans ?_
    refine run_loadVar hT hn hg b _ _ g1 ?_ g2
    intro hf; subst hf
    have := mk_false h; simp at this; omega
end
end Go.Am
/- The abstract machine: an object is written, or made; what that leaves of all others. -/
namespace Go.Am
/-- a block of memory is written -/
def put (w : World) (b : Nat) (o : Obj) : World := { w with heap := w.heap.setIfInBounds b o }
theorem put_size (w : World) (b : Nat) (o : Obj) : (put w b o).heap.size = w.heap.size := by simp [put]
theorem put_same {w : World} {b : Nat} {o o' : Obj} (h : w.heap[b]? = some o') : (put w b o).heap[b]? = some o := by
  have hb : b < w.heap.size := by
    rcases Nat.lt_or_ge b w.heap.size with h1 | h1
    · exact h1
    · simp [Array.getElem?_eq_none h1] at h
  simp [put, hb]
theorem put_other {w : World} {b b' : Nat} {o : Obj} (h : b' ≠ b) : (put w b o).heap[b']? = w.heap[b']? := by
  simp [put, Array.getElem?_setIfInBounds, Ne.symm h]
theorem put_put (w : World) (b : Nat) (o o' : Obj) : put (put w b o) b o' = put w b o' := by
  simp only [put]
  congr 1
  apply Array.ext_getElem?
  intro i
  simp only [Array.getElem?_setIfInBounds, Array.size_setIfInBounds]
  split <;> rfl
/-- a new block -/
def alloc (w : World) (o : Obj) : World := { w with heap := w.heap.push o }
theorem alloc_new (w : World) (o : Obj) : (alloc w o).heap[w.heap.size]? = some o := by simp [alloc]
theorem alloc_old {w : World} {o : Obj} {b : Nat} (h : b < w.heap.size) : (alloc w o).heap[b]? = w.heap[b]? := by
  simp only [alloc, Array.getElem?_push]; rw [if_neg (by omega)]
theorem alloc_size (w : World) (o : Obj) : (alloc w o).heap.size = w.heap.size + 1 := by simp [alloc]
theorem lt_of_heap {w : World} {b : Nat} {o : Obj} (h : w.heap[b]? = some o) : b < w.heap.size := by
  rcases Nat.lt_or_ge b w.heap.size with h1 | h1
  · exact h1
  · simp [Array.getElem?_eq_none h1] at h
theorem alive_iff {σ : St} {id : Nat} : alive σ id = true ↔ ∃ o, σ[id]? = some o ∧ o ≠ .dead := by
  unfold alive
  cases h : σ[id]? with
  | none => simp
  | some o => cases o <;> simp
theorem blockOf_other [HasGlob] {κ κ' : K} {w : World} {σ : St} (hR : RS κ w σ) (hat : ∀ i, alive σ i = true → κ'.at_ i = κ.at_ i)
    (hsl : ∀ i ep len v, alive σ i = true → κ.sl i ep len = some v → κ'.sl i ep len = some v) {i : Nat} {o : Ob} (h : σ[i]? = some o) : blockOf κ' i o = blockOf κ i o := by
  cases o with
  | var cs => exact hat i (alive_iff.2 ⟨_, h, by simp⟩)
  | map es => exact hat i (alive_iff.2 ⟨_, h, by simp⟩)
  | dead => rfl
  | arr ep m sz rows =>
    have hal := alive_iff.2 ⟨_, h, show Ob.arr ep m sz rows ≠ .dead by simp⟩
    obtain ⟨_, h1⟩ := hR.obj _ _ h
    simp only [blockOf]
    rcases h1 with ⟨h1, _⟩ | ⟨b, cap, c, E, h1, _⟩ <;> rw [h1, hsl _ _ _ _ hal h1]
theorem blockOf_lt [HasGlob] {κ : K} {w : World} {σ : St} (hR : RS κ w σ) {i : Nat} {o : Ob} (h : σ[i]? = some o) {b : Nat} (hb : blockOf κ i o = some b) : b < w.heap.size := by
  cases o with
  | var cs => obtain ⟨b', c, E, h1, h2, _⟩ := hR.obj _ _ h; simp only [blockOf] at hb; rw [h1] at hb; injection hb with hb; subst hb; exact lt_of_heap h2
  | map es => obtain ⟨b', c, E, h1, h2, _⟩ := hR.obj _ _ h; simp only [blockOf] at hb; rw [h1] at hb; injection hb with hb; subst hb; exact lt_of_heap h2
  | dead => simp [blockOf] at hb
  | arr ep m sz rows =>
    obtain ⟨_, h1⟩ := hR.obj _ _ h
    simp only [blockOf] at hb
    rcases h1 with ⟨h1, _⟩ | ⟨b', cap, c, E, h1, h2, _⟩
    · rw [h1] at hb; simp [nilSlice] at hb
    · rw [h1] at hb; simp at hb; subst hb; exact lt_of_heap h2
/-- an object that is not touched means what it meant -/
theorem RO.stays [HasGlob] {κ κ' : K} {w w' : World} {σ : St} (hR : RS κ w σ) (hs : Stays κ w κ' w' (alive σ)) {B : Nat}
    (hnew : ∀ b o, κ'.S b o → κ.S b o ∨ b = B) (hframe : ∀ b, b < w.heap.size → b ≠ B → w'.heap[b]? = w.heap[b]?) {i : Nat} {o : Ob} (h : σ[i]? = some o)
    (hsle : alive σ i = true → ∀ ep len, κ'.sl i ep len = κ.sl i ep len) (hB : ∀ b, blockOf κ i o = some b → b ≠ B) : RO κ' w' i o := by
  have hu := hR.inner _ _ h
  have hS' : ∀ b, b ≠ B → ∀ o, κ'.S b o → κ.S b o := fun b hb o ho => (hnew b o ho).resolve_right hb
  cases o with
  | dead => trivial
  | var cs =>
    obtain ⟨b, c, E, h1, h2, h3, h4⟩ := hR.obj _ _ h
    have hne := hB b (by simpa [blockOf] using h1)
    exact ⟨b, c, E, by rw [hs.at_ i (alive_iff.2 ⟨_, h, by simp⟩), h1], by rw [hframe b (lt_of_heap h2) hne, h2], h3.stays hs hu, fun o ho => h4 o (hS' b hne o ho)⟩
  | map es =>
    obtain ⟨b, ents, clk, h1, h2, h3, h4, h5⟩ := hR.obj _ _ h
    have hne := hB b (by simpa [blockOf] using h1)
    refine ⟨b, ents, clk, by rw [hs.at_ i (alive_iff.2 ⟨_, h, by simp⟩), h1], by rw [hframe b (lt_of_heap h2) hne, h2], h3, fun o ho => h4 o (hS' b hne o ho), fun j k x hj => ?_⟩
    obtain ⟨e, he, hk, hv⟩ := h5 j k x hj
    refine ⟨e, he, hk, hv.stays hs ?_⟩
    simp only [Ob.under, List.all_eq_true] at hu
    exact hu (k, x) (List.mem_of_getElem? hj)
  | arr ep m sz rows =>
    have hal := alive_iff.2 ⟨_, h, show Ob.arr ep m sz rows ≠ .dead by simp⟩
    obtain ⟨h0, h1⟩ := hR.obj _ _ h
    refine ⟨⟨h0.1, fun ep' l v hv => h0.2 ep' l v (hsle hal ep' l ▸ hv)⟩, ?_⟩
    rcases h1 with ⟨h1, h2⟩ | ⟨b, cap, c, E, h1, h2, h3, h4, h5, h6, h7⟩
    · exact .inl ⟨hs.sl _ _ _ _ hal h1, h2⟩
    · have hne := hB b (by simp [blockOf, h1])
      refine .inr ⟨b, cap, c, E, hs.sl _ _ _ _ hal h1, by rw [hframe b (lt_of_heap h2) hne, h2], h3, h4, fun p q row d hp hq => ?_, fun hm o ho => h6 hm o (hS' b hne o ho), fun hm o => ⟨fun ho => (h7 hm o).1 (hS' b hne o ho), fun ho => hs.S _ _ ((h7 hm o).2 ho)⟩⟩
      obtain ⟨v, hv, hd⟩ := h5 p q row d hp hq
      exact ⟨v, hv, hd.mono hs.S hs.keep⟩
theorem alive_set {σ : St} {id : Nat} {o1 : Ob} (hne : o1 ≠ .dead) {i : Nat} (h : alive σ i = true) : alive (σ.set id o1) i = true := by
  obtain ⟨o, ho, hd⟩ := alive_iff.1 h
  rw [alive_iff]
  by_cases hi : id = i
  · subst hi
    have : id < σ.length := (List.getElem?_eq_some_iff.1 ho).1
    exact ⟨o1, by simp [this], hne⟩
  · exact ⟨o, by rw [List.getElem?_set_ne hi]; exact ho, hd⟩
mutual
theorem Cell.under_mono {L L' : Nat → Bool} (h : ∀ i, L i = true → L' i = true) : ∀ {c : Cell}, c.under L = true → c.under L' = true
  | .d _, _ => rfl
  | .rptr _, _ => rfl
  | .arr id _ _, hc => h id hc
  | .ptr id _, hc => h id hc
  | .eptr id _ _ _ _ _, hc => h id hc
  | .map id, hc => h id hc
  | .fn _ a b, hc => by
    simp only [Cell.under, Bool.and_eq_true] at hc ⊢
    exact ⟨underAll_mono h hc.1, underAll_mono h hc.2⟩
theorem underAll_mono {L L' : Nat → Bool} (h : ∀ i, L i = true → L' i = true) : ∀ {cs : List Cell}, underAll L cs = true → underAll L' cs = true
  | [], _ => rfl
  | c :: r, hc => by
    simp only [underAll, Bool.and_eq_true] at hc ⊢
    exact ⟨Cell.under_mono h hc.1, underAll_mono h hc.2⟩
end
theorem FV.under_mono {L L' : Nat → Bool} (h : ∀ i, L i = true → L' i = true) {x : FV} (hx : x.under L = true) : x.under L' = true := by
  cases x with
  | one c => exact Cell.under_mono h hx
  | agg cs => exact underAll_mono h hx
theorem V.under_mono {L L' : Nat → Bool} (h : ∀ i, L i = true → L' i = true) {x : V} (hx : x.under L = true) : x.under L' = true := by
  cases x with
  | one c => exact Cell.under_mono h hx
  | agg cs => exact underAll_mono h hx
  | tup xs =>
    simp only [V.under, List.all_eq_true] at hx ⊢
    exact fun x hm => FV.under_mono h (hx x hm)
  | undef => rfl
theorem Ob.under_mono {L L' : Nat → Bool} (h : ∀ i, L i = true → L' i = true) {x : Ob} (hx : x.under L = true) : x.under L' = true := by
  cases x with
  | var cs => exact underAll_mono h hx
  | arr => rfl
  | dead => rfl
  | map es =>
    simp only [Ob.under, List.all_eq_true] at hx ⊢
    exact fun x hm => FV.under_mono h (hx x hm)
section
variable {κ κ' : K} {w w' : World} {σ : St}
/-- an object is written or made; B: the block that was touched -/
theorem RS.update [HasGlob] (hR : RS κ w σ) {id : Nat} {o0 o1 : Ob} {B : Nat} (h0 : σ[id]? = some o0) (hB : blockOf κ id o0 = some B ∨ w.heap.size ≤ B)
    (hS : ∀ b o, κ.S b o → κ'.S b o) (hK : ∀ b o, κ.S b o → cellAt w' b o = cellAt w b o)
    (hat : ∀ i, alive σ i = true → κ'.at_ i = κ.at_ i) (hsl : ∀ i ep len v, alive σ i = true → κ.sl i ep len = some v → κ'.sl i ep len = some v)
    (hsle : ∀ i, i ≠ id → alive σ i = true → ∀ ep len, κ'.sl i ep len = κ.sl i ep len)
    (hnew : ∀ b o, κ'.S b o → κ.S b o ∨ b = B) (hframe : ∀ b, b < w.heap.size → b ≠ B → w'.heap[b]? = w.heap[b]?)
    (hsize : w.heap.size ≤ w'.heap.size) (hBs : ∀ o, κ'.S B o → B < w'.heap.size)
    (os : w'.os = w.os) (tape : w'.tape = w.tape) (output : w'.output = w.output) (hne : o1 ≠ .dead) (h1 : RO κ' w' id o1)
    (hb1 : ∀ b, blockOf κ' id o1 = some b → b = B) (hu : o1.under (alive (σ.set id o1)) = true) :
    Evo κ w σ κ' w' (σ.set id o1) ∧ RS κ' w' (σ.set id o1) := by
  have hid : id < σ.length := (List.getElem?_eq_some_iff.1 h0).1
  have hs : Stays κ w κ' w' (alive σ) := ⟨hS, hK, hat, hsl⟩
  have hother : ∀ i o, i ≠ id → σ[i]? = some o → ∀ b, blockOf κ i o = some b → b ≠ B := by
    intro i o hi ho b hb he
    subst he
    rcases hB with h | h
    · exact hi (hR.inj _ _ _ _ _ ho h0 hb h)
    · exact absurd (blockOf_lt hR ho hb) (by omega)
  have hget : ∀ i o, (σ.set id o1)[i]? = some o → (i = id ∧ o = o1) ∨ (i ≠ id ∧ σ[i]? = some o) := by
    intro i o ho
    by_cases hi : id = i
    · subst hi; simp [hid] at ho; exact .inl ⟨rfl, ho.symm⟩
    · rw [List.getElem?_set_ne hi] at ho; exact .inr ⟨fun e => hi e.symm, ho⟩
  refine ⟨?_, ?_⟩
  · refine ⟨hS, hK, hat, hsl, fun i hi => alive_set hne hi, fun b o ho => ?_, fun b hb hno => ?_, fun b hb => ?_, hsize, os, tape, output, by simp⟩
    · rcases hnew b o ho with h | h
      · exact .inl h
      · subst h
        rcases hB with h | h
        · exact .inr (.inl ⟨id, o0, h0, h⟩)
        · exact .inr (.inr h)
    · refine hframe b hb fun he => ?_
      subst he
      rcases hB with h | h
      · exact hno ⟨id, o0, h0, h⟩
      · omega
    · obtain ⟨i, o, hi, hbo⟩ := hb
      rcases hget i o hi with ⟨rfl, rfl⟩ | ⟨hne', ho⟩
      · have := hb1 b hbo; subst this
        rcases hB with h | h
        · exact .inl ⟨i, o0, h0, h⟩
        · exact .inr h
      · exact .inl ⟨i, o, ho, by rw [← blockOf_other hR hat hsl ho]; exact hbo⟩
  · refine ⟨fun i o hi => ?_, fun i i' o o' b hi hi' hb hb' => ?_, fun i o hi => ?_, fun b o ho => ?_, hR.glob.mono hS hK⟩
    · rcases hget i o hi with ⟨rfl, rfl⟩ | ⟨hne', ho⟩
      · exact h1
      · exact RO.stays hR hs hnew hframe ho (hsle i hne') (hother i o hne' ho)
    · rcases hget i o hi with ⟨rfl, rfl⟩ | ⟨hne1, ho⟩ <;> rcases hget i' o' hi' with ⟨rfl, rfl⟩ | ⟨hne2, ho'⟩
      · rfl
      · have e := hb1 b hb; subst e
        exact absurd rfl (hother i' o' hne2 ho' b (by rw [← blockOf_other hR hat hsl ho']; exact hb'))
      · have e := hb1 b hb'; subst e
        exact absurd rfl (hother i o hne1 ho b (by rw [← blockOf_other hR hat hsl ho]; exact hb))
      · exact hR.inj _ _ _ _ _ ho ho' (by rw [← blockOf_other hR hat hsl ho]; exact hb) (by rw [← blockOf_other hR hat hsl ho']; exact hb')
    · rcases hget i o hi with ⟨rfl, rfl⟩ | ⟨hne', ho⟩
      · exact hu
      · exact Ob.under_mono (fun j hj => alive_set hne hj) (hR.inner _ _ ho)
    · rcases hnew b o ho with h | h
      · exact Nat.lt_of_lt_of_le (hR.inside b o h) hsize
      · subst h; exact hBs o ho
/-- memory that is new, and is no object: at most made fast -/
theorem RS.fresh [HasGlob] (hR : RS κ w σ) (hS : ∀ b o, κ.S b o → κ'.S b o)
    (hat : κ'.at_ = κ.at_) (hsl : κ'.sl = κ.sl)
    (hnew : ∀ b o, κ'.S b o → κ.S b o ∨ (w.heap.size ≤ b ∧ b < w'.heap.size)) (hframe : ∀ b, b < w.heap.size → w'.heap[b]? = w.heap[b]?)
    (hsize : w.heap.size ≤ w'.heap.size) (os : w'.os = w.os) (tape : w'.tape = w.tape) (output : w'.output = w.output) :
    Evo κ w σ κ' w' σ ∧ RS κ' w' σ := by
  have hK : ∀ b o, κ.S b o → cellAt w' b o = cellAt w b o := fun b o h => cell_of_heap (hframe b (hR.inside b o h)) o
  have hat' : ∀ i, alive σ i = true → κ'.at_ i = κ.at_ i := fun i _ => by rw [hat]
  have hsl' : ∀ i ep len v, alive σ i = true → κ.sl i ep len = some v → κ'.sl i ep len = some v := fun i ep len v _ h => by rw [hsl]; exact h
  have hs : Stays κ w κ' w' (alive σ) := ⟨hS, hK, hat', hsl'⟩
  have hbo : ∀ {i o}, σ[i]? = some o → blockOf κ' i o = blockOf κ i o := fun h => blockOf_other hR hat' hsl' h
  refine ⟨⟨hS, hK, hat', hsl', fun _ h => h, fun b o h => (hnew b o h).elim .inl (fun h => .inr (.inr h.1)), fun b hb _ => hframe b hb, fun b hb => ?_, hsize, os, tape, output, Nat.le_refl _⟩,
    ⟨fun i o hi => ?_, fun i i' o o' b hi hi' hb hb' => hR.inj _ _ _ _ _ hi hi' (hbo hi ▸ hb) (hbo hi' ▸ hb'), hR.inner, fun b o h => (hnew b o h).elim (fun h => Nat.lt_of_lt_of_le (hR.inside b o h) hsize) (fun h => h.2), hR.glob.mono hS hK⟩⟩
  · obtain ⟨i, o, hi, h⟩ := hb
    exact .inl ⟨i, o, hi, hbo hi ▸ h⟩
  · -- as if a block beyond all were touched
    have key : ∀ B, (∀ b o, κ'.S b o → κ.S b o ∨ b = B) ∨ True := fun _ => .inr trivial
    clear key
    have hu := hR.inner _ _ hi
    have hS' : ∀ b, b < w.heap.size → ∀ o, κ'.S b o → κ.S b o := fun b hb o ho => (hnew b o ho).resolve_right (fun h => absurd hb (by omega))
    cases o with
    | dead => trivial
    | var cs =>
      obtain ⟨b, c, E, h1, h2, h3, h4⟩ := hR.obj _ _ hi
      have hlt := lt_of_heap h2
      exact ⟨b, c, E, by rw [hat]; exact h1, by rw [hframe b hlt, h2], h3.stays hs hu, fun o ho => h4 o (hS' b hlt o ho)⟩
    | map es =>
      obtain ⟨b, ents, clk, h1, h2, h3, h4, h5⟩ := hR.obj _ _ hi
      have hlt := lt_of_heap h2
      refine ⟨b, ents, clk, by rw [hat]; exact h1, by rw [hframe b hlt, h2], h3, fun o ho => h4 o (hS' b hlt o ho), fun j k x hj => ?_⟩
      obtain ⟨e, he, hk, hv⟩ := h5 j k x hj
      refine ⟨e, he, hk, hv.stays hs ?_⟩
      simp only [Ob.under, List.all_eq_true] at hu
      exact hu (k, x) (List.mem_of_getElem? hj)
    | arr ep m sz rows =>
      obtain ⟨h0, h1⟩ := hR.obj _ _ hi
      refine ⟨⟨h0.1, fun ep' l v hv => h0.2 ep' l v (by rw [hsl] at hv; exact hv)⟩, ?_⟩
      rcases h1 with ⟨h1, h2⟩ | ⟨b, cap, c, E, h1, h2, h3, h4, h5, h6, h7⟩
      · exact .inl ⟨by rw [hsl]; exact h1, h2⟩
      · have hlt := lt_of_heap h2
        refine .inr ⟨b, cap, c, E, by rw [hsl]; exact h1, by rw [hframe b hlt, h2], h3, h4, fun p q row d hp hq => ?_, fun hm o ho => h6 hm o (hS' b hlt o ho), fun hm o => ⟨fun ho => (h7 hm o).1 (hS' b hlt o ho), fun ho => hS _ _ ((h7 hm o).2 ho)⟩⟩
        obtain ⟨v, hv, hd⟩ := h5 p q row d hp hq
        exact ⟨v, hv, hd.mono hS hK⟩
end
end Go.Am
/- The abstract machine: what writes, and what makes an object. -/
namespace Go.Am
/-- what an operation comes to -/
def OpOk [HasGlob] (κ : K) (w : World) (σ : St) (run : Result Next) (v : V) (u : Upd) : Prop :=
  ∃ x w' κ', (run = .ok (.value x) w' ∨ (run = .ok .skip w' ∧ x = Go.undef)) ∧ RV κ' w' v x ∧ v.under (alive (σ.upd u)) = true ∧
    Evo κ w σ κ' w' (σ.upd u) ∧ RS κ' w' (σ.upd u)
theorem OpOk.quiet [HasGlob] {κ : K} {w : World} {σ : St} {run : Result Next} {v : V} {x : Value} (hR : RS κ w σ) (h : run = .ok (.value x) w) (hv : RV κ w v x) (hu : v.under (alive σ) = true) :
    OpOk κ w σ run v [] := ⟨x, w, κ, .inl h, hv, hu, .refl, hR⟩
/-- a look at the state -/
def Sees (σ : St) (look : Look) : Prop := ∀ id o, look id = some o → σ[id]? = some o
section
variable {P : Program} {T : Tab} {κ : K} {w : World} {σ : St} {look : Look}
theorem cells_sound {v : V} {x : Value} {cs : List Cell} (h : RV κ w v x) (hc : v.cells = some cs) : RCs κ w cs x.cells.toList := by
  cases h with
  | one c v h =>
    simp only [V.cells, Option.some.injEq] at hc; subst hc
    rw [plain_cells h.plain]; exact .cons h .nil
  | agg cs' vs h => simp only [V.cells, Option.some.injEq] at hc; subst hc; exact h
  | tup => simp [V.cells] at hc
  | undef => simp [V.cells] at hc
theorem cells_under {L : Nat → Bool} {v : V} {cs : List Cell} (h : v.under L = true) (hc : v.cells = some cs) : underAll L cs = true := by
  cases v <;> simp only [V.cells, Option.some.injEq, reduceCtorEq] at hc <;> subst hc
  · simpa [V.under, underAll] using h
  · exact h
theorem rows_sound [HasGlob] (hR : RS κ w σ) (hl : Sees σ look) {id ep len : Nat} {rows : List (List D)} (h : rowsOf look false id ep len = some rows) {a : Option Addr} {cap : Nat}
    (hs : κ.sl id ep len = some (.slice a len cap)) : RD κ.S w (.list rows) (.slice a len cap) := by
  unfold rowsOf at h
  cases ho : look id with
  | none => simp [ho] at h
  | some o =>
  cases o <;> simp only [ho] at h <;> try simp at h
  rename_i ep' m sz rows'
  cases hc : (Nat.beq ep ep' && Nat.beq len rows'.length) && (!m || false) with
  | false => simp only [Bool.or_false] at hc; rw [hc] at h; simp at h
  | true =>
  have hc' := hc
  simp only [Bool.or_false] at hc; rw [hc] at h
  injection h with h; subst h
  simp only [Bool.and_eq_true, Nat.beq_eq, Bool.or_false] at hc'
  obtain ⟨⟨rfl, rfl⟩, hm⟩ := hc'
  obtain ⟨h0, h1⟩ := hR.obj _ _ (hl _ _ ho)
  rcases h1 with ⟨h1, h2⟩ | ⟨b, cap', c, E, h1, h2, h3, h4, h5, h6, h7⟩
  · subst h2; rw [hs] at h1; injection h1 with h1; injection h1 with h1 h2 h3; subst h1; exact .nil _ _
  · rw [hs] at h1; injection h1 with h1; injection h1 with h1 _ h1'; subst h1; subst h1'
    have hval : ∀ i j : Nat, ∃ v : Value, ∀ row d, rows'[i]? = some row → row[j]? = some d → c[i * sz + j]? = some v ∧ RD κ.S w d v := by
      intro i j
      cases hr : rows'[i]? with
      | none => exact ⟨Go.undef, fun _ _ h => by simp at h⟩
      | some row =>
        cases hd : row[j]? with
        | none => exact ⟨Go.undef, fun row' d h h' => by injection h with h; subst h; rw [hd] at h'; simp at h'⟩
        | some d =>
          obtain ⟨v, hv, hrd⟩ := h5 i j row d hr hd
          exact ⟨v, fun row' d' h h' => by injection h with h; subst h; rw [hd] at h'; injection h' with h'; subst h'; exact ⟨hv, hrd⟩⟩
    refine .list b 0 cap sz rows' (fun i j => (hval i j).choose) h3 (fun i row hi => h0.1 row (List.mem_of_getElem? hi)) (fun i j row d hi hj => ?_) (fun i j row d hi hj => ((hval i j).choose_spec row d hi hj).2)
    have hlt : i < rows'.length := (List.getElem?_eq_some_iff.1 hi).1
    have hjl : j < sz := by rw [← h0.1 row (List.mem_of_getElem? hi)]; exact (List.getElem?_eq_some_iff.1 hj).1
    refine ⟨(h7 (by simpa using hm) _).2 ?_, ?_⟩
    · have : (i + 1) * sz ≤ rows'.length * sz := Nat.mul_le_mul_right _ hlt
      rw [Nat.add_mul] at this; omega
    · rw [cells_of_block h2, Nat.zero_add]; exact ((hval i j).choose_spec row d hi hj).1
theorem data_sound [HasGlob] (hR : RS κ w σ) (hl : Sees σ look) {c : Cell} {x : D} {v : Value} (h : dataOf look c = some x) (hc : RC κ w c v) : RD κ.S w x v := by
  unfold dataOf at h
  split at h
  · simp only [Option.some.injEq] at h; subst h
    cases hc with | d _ _ hd => cases hd with | sc _ _ => exact .nil _ _
  · simp only [Option.some.injEq] at h; subst h
    cases hc with | d _ _ hd => exact hd
  · rename_i id ep len
    split at h
    · rename_i rows hrows
      simp only [Option.some.injEq] at h; subst h
      cases hc with | arr _ _ _ a cap hs => exact rows_sound hR hl hrows hs
    · simp at h
  · simp at h
theorem dataAll_sound [HasGlob] (hR : RS κ w σ) (hl : Sees σ look) : ∀ {cs : List Cell} {ds : List D} {vs : List Value}, dataAll look cs = some ds → RCs κ w cs vs →
    ds.length = vs.length ∧ ∀ (i : Nat) (d : D) (v : Value), ds[i]? = some d → vs[i]? = some v → RD κ.S w d v
  | [], ds, vs, h, hc => by
    simp only [dataAll, Option.some.injEq] at h; subst h
    have := hc.1; simp only [List.length_nil] at this
    exact ⟨by simpa using this, fun i d v h => by simp at h⟩
  | c :: cs, ds, [], h, hc => by have := hc.1; simp at this
  | c :: cs, ds, v :: vs, h, hc => by
    simp only [dataAll] at h
    cases h1 : dataOf look c with
    | none => simp [h1] at h
    | some x =>
    cases h2 : dataAll look cs with
    | none => simp [h1, h2] at h
    | some xs =>
    simp only [h1, h2, Option.some.injEq] at h; subst h
    obtain ⟨h3, h4⟩ := dataAll_sound hR hl h2 hc.tail
    refine ⟨by simp [h3], fun i d u hd hu => ?_⟩
    cases i with
    | zero => simp at hd hu; subst hd; subst hu; exact data_sound hR hl h1 hc.head
    | succ i => exact h4 i d u (by simpa using hd) (by simpa using hu)
/-! stores into cells -/
def putCells (c : Array Value) (k : Nat) (vs : List Value) : Array Value := (c.toList.take k ++ vs ++ c.toList.drop (k + vs.length)).toArray
theorem putCells_size {c : Array Value} {k : Nat} {vs : List Value} (h : k + vs.length ≤ c.size) : (putCells c k vs).size = c.size := by
  simp [putCells]; omega
theorem putCells_get {c : Array Value} {k : Nat} {vs : List Value} (h : k + vs.length ≤ c.size) (i : Nat) :
    (putCells c k vs)[i]? = if i < k then c[i]? else if i < k + vs.length then vs[i - k]? else c[i]? := by
  have hk : k ≤ c.toList.length := by simp; omega
  simp only [putCells, List.getElem?_toArray, List.append_assoc]
  rw [List.getElem?_append, List.length_take, Nat.min_eq_left hk]
  by_cases h1 : i < k
  · rw [if_pos h1, if_pos h1, List.getElem?_take, if_pos h1, Array.getElem?_toList]
  · rw [if_neg h1, if_neg h1, List.getElem?_append]
    by_cases h2 : i < k + vs.length
    · rw [if_pos (by omega), if_pos h2]
    · rw [if_neg (by omega), if_neg h2, List.getElem?_drop, Array.getElem?_toList]
      congr 1; omega
theorem setCell_put {b o : Nat} {c : Array Value} {E : TypeId} {f : Nat × Nat} (h : w.heap[b]? = some (.cells c E f)) (v : Value) :
    w.setCell ⟨b, o, none⟩ v = put w b (.cells (c.setIfInBounds o v) E f) := by
  simp only [World.setCell, put]
  congr 1
  apply Array.ext_getElem?
  intro i
  rw [Array.getElem?_modify, Array.getElem?_setIfInBounds]
  by_cases hi : b = i
  · subst hi
    rw [h]; simp [lt_of_heap h]
  · simp [hi]
theorem put_self {b : Nat} {o : Obj} (h : w.heap[b]? = some o) : put w b o = w := by
  obtain ⟨heap, tape, drawn, os, output⟩ := w
  simp only [put]
  congr 1
  apply Array.ext_getElem?
  intro i
  rw [Array.getElem?_setIfInBounds]
  by_cases hi : b = i
  · subst hi; simp only [if_true]; simp only at h; rw [h]; simp; exact lt_of_heap (w := ⟨heap, tape, drawn, os, output⟩) h
  · simp [hi]
theorem putCells_nil (c : Array Value) (k : Nat) : putCells c k [] = c := by
  apply Array.ext'
  simp [putCells]
theorem putCells_cons {c : Array Value} {k : Nat} {v : Value} {vs : List Value} (h : k + (v :: vs).length ≤ c.size) :
    putCells (c.setIfInBounds k v) (k + 1) vs = putCells c k (v :: vs) := by
  simp only [List.length_cons] at h
  apply Array.ext_getElem?
  intro i
  rw [putCells_get (by simp; omega), putCells_get (by simpa using h)]
  simp only [Array.getElem?_setIfInBounds, List.length_cons]
  by_cases h1 : i < k
  · rw [if_pos (by omega), if_neg (by omega), if_pos h1]
  · by_cases h2 : i = k
    · subst h2
      rw [if_pos (by omega), if_pos rfl, if_pos (by omega), if_neg (by omega), if_pos (by omega)]; simp
    · by_cases h3 : i < k + (vs.length + 1)
      · rw [if_neg (by omega), if_pos (by omega), if_neg h1, if_pos h3]
        rw [show i - k = (i - (k + 1)) + 1 from by omega]; simp
      · rw [if_neg (by omega), if_neg (by omega), if_neg (by omega), if_neg h1, if_neg h3]
theorem run_storeCells {E : TypeId} {b o : Nat} : ∀ (vs : List Value) (i : Nat) (w : World) (c : Array Value), w.heap[b]? = some (.cells c E (0, 0)) →
    allPlain vs = true → o + i + vs.length ≤ c.size →
    (storeCells ⟨b, o, none⟩ vs i).run P w = .ok () (put w b (.cells (putCells c (o + i) vs) E (0, 0)))
  | [], i, w, c, h, _, _ => by
    rw [putCells_nil, put_self h]; rfl
  | v :: vs, i, w, c, h, hp, hle => by
    simp only [Am.allPlain, Bool.and_eq_true] at hp
    simp only [List.length_cons] at hle
    unfold storeCells
    rw [addr_add]
    have hlt : o + i < c.size := by omega
    have h0 : w.cell? ⟨b, o + i, none⟩ = some c[o + i] := by
      have := cells_of_block h (o + i)
      simpa [cellAt, hlt] using this
    have hf : w.frozen? ⟨b, o + i, none⟩ = false := by simp [World.frozen?, h]
    rw [run_bind (run_store h0 hf (fun vs e => by subst e; simp [Am.plain] at hp) (fun vs e => by subst e; simp [Am.plain] at hp))]
    rw [setCell_put h]
    rw [run_storeCells vs (i + 1) _ (c.setIfInBounds (o + i) v) (put_same h) hp.2 (by simp; omega)]
    rw [put_put, show o + (i + 1) = o + i + 1 from by omega, putCells_cons (by simp only [List.length_cons]; omega)]
theorem RCs.put {cs xs : List Cell} {c : Array Value} {vs : List Value} {off : Nat} (h : RCs κ w cs c.toList) (k : RCs κ w xs vs) (_hle : off + xs.length ≤ cs.length) :
    RCs κ w (setCells cs off xs) (putCells c off vs).toList := by
  have : (putCells c off vs).toList = c.toList.take off ++ vs ++ c.toList.drop (off + vs.length) := by simp [putCells]
  rw [this, setCells, ← k.1]
  exact ((h.take off).append k).append (h.drop _)
theorem run_storeVar (hT : T.fits P) {t n : Nat} (hn : T.size t = some n) {b o : Nat} {c : Array Value} {E : TypeId} (hh : w.heap[b]? = some (.cells c E (0, 0)))
    {y : Value} (hy : y.cells.size = n) (hp : allPlain y.cells.toList = true) (hle : o + n ≤ c.size) :
    (storeVar t ⟨b, o, none⟩ y).run P w = .ok () (put w b (.cells (putCells c o y.cells.toList) E (0, 0))) := by
  unfold storeVar
  rw [run_bind (run_sizeOf hT hn)]
  rw [if_neg (by simp [hy])]
  have := run_storeCells (P := P) (E := E) (b := b) (o := o) y.cells.toList 0 w c hh hp (by simp [hy]; omega)
  simpa using this
theorem store_sound [HasGlob] (hT : T.fits P) (hR : RS κ w σ) (hl : Sees σ look) {t : TypeId} {a : Cell} {x y : Value} {v : V} {cs : List Cell} {u : Upd}
    (h : storeTo T t a cs look = some u) (ha : RC κ w a x) (hv : RV κ w v y) (hc : v.cells = some cs) (hu : v.under (alive σ) = true) :
    OpOk κ w σ ((do Instr.storeAt t x y; pure Next.skip : Sem Next).run P w) .undef u := by
  have hcs := cells_sound hv hc
  have hcu := cells_under hu hc
  unfold storeTo at h
  cases hn : T.size t with
  | none => simp [hn] at h
  | some n =>
  simp only [hn] at h
  cases hnl : Nat.beq n cs.length with
  | false => rw [hnl] at h; simp at h
  | true =>
  rw [hnl] at h; simp only [cond_true] at h
  have hnl : n = cs.length := by simpa using hnl
  have hys : y.cells.size = n := by rw [hnl, hcs.1]; simp
  cases ha with
  | d => simp at h
  | arr => simp at h
  | rptr => simp at h
  | map => simp at h
  | fn => simp at h
  | ptr id off b hb =>
    simp only at h
    cases ho : look id with
    | none => simp [ho] at h
    | some o =>
    cases o <;> simp only [ho] at h <;> try simp at h
    rename_i cells
    have ho' := hl _ _ ho
    obtain ⟨b', c, E, hb', hh, hcc, hnS⟩ := hR.obj _ _ ho'
    rw [hb] at hb'; injection hb' with hb'; subst hb'
    cases hle : Nat.ble (off + n) cells.length with
    | false => rw [hle] at h; simp at h
    | true =>
    rw [hle] at h; injection h with h; subst h
    have hle := Nat.le_of_ble_eq_true hle
    have hle2 : off + n ≤ c.size := by have := hcc.1; simp at this; omega
    have hrun := run_storeVar (P := P) hT hn hh hys hcs.allPlain hle2
    have hK : ∀ b' o, κ.S b' o → cellAt (put w b (.cells (putCells c off y.cells.toList) E (0, 0))) b' o = cellAt w b' o := fun b' o hs =>
      cell_of_heap (put_other (fun e => by subst e; exact hnS o hs)) o
    have hs : Stays κ w κ (put w b (.cells (putCells c off y.cells.toList) E (0, 0))) (alive σ) := ⟨fun _ _ h => h, hK, fun _ _ => rfl, fun _ _ _ _ _ h => h⟩
    have hset : underAll (alive σ) (setCells cells off cs) = true :=
      underAll_append (underAll_append (underAll_take _ (hR.inner _ _ ho')) hcu) (underAll_drop _ (hR.inner _ _ ho'))
    have hup := RS.update (κ' := κ) (w' := put w b (.cells (putCells c off y.cells.toList) E (0, 0))) hR (id := id) (o1 := .var (setCells cells off cs)) (B := b) ho' (.inl (by simpa [blockOf] using hb))
      (fun _ _ h => h) hK (fun _ _ => rfl) (fun _ _ _ _ _ h => h) (fun _ _ _ _ _ => rfl) (fun _ _ h => .inl h) (fun b' _ hne => put_other hne) (by rw [put_size]; exact Nat.le_refl _)
      (fun o hs => absurd hs (hnS o)) rfl rfl rfl (by simp)
      ⟨b, putCells c off y.cells.toList, E, hb, put_same hh, (hcc.stays hs (hR.inner _ _ ho')).put (hcs.stays hs hcu) (by omega), hnS⟩
      (fun b' h => by simp only [blockOf] at h; rw [hb] at h; injection h with h; exact h.symm)
      (underAll_mono (fun i hi => alive_set (by simp) hi) hset)
    refine ⟨Go.undef, _, κ, .inr ⟨?_, rfl⟩, .undef, rfl, hup.1, hup.2⟩
    have : (Instr.storeAt t (.pointer (some ⟨b, off, none⟩)) y).run P w = .ok () (put w b (.cells (putCells c off y.cells.toList) E (0, 0))) := hrun
    rw [run_bind this]; rfl
  | eptr id ep len sz idx off b cap hs0 =>
    simp only at h
    cases ho : look id with
    | none => simp [ho] at h
    | some o =>
    cases o <;> simp only [ho] at h <;> try simp at h
    rename_i ep' m sz' rows
    cases m with
    | false => simp at h
    | true =>
    cases hds : dataAll look cs with
    | none => simp [hds] at h
    | some ds =>
    simp only [hds] at h
    have ho' := hl _ _ ho
    cases hc1 : (Nat.beq ep ep' && Nat.beq len rows.length) && Nat.beq sz sz' with
    | false => rw [hc1] at h; simp at h
    | true =>
    rw [hc1] at h; simp only [cond_true] at h
    simp only [Bool.and_eq_true, Nat.beq_eq] at hc1
    obtain ⟨⟨rfl, rfl⟩, rfl⟩ := hc1
    cases hrow : rows[idx]? with
    | none => rw [hrow] at h; simp at h
    | some row =>
    rw [hrow] at h; simp only at h
    cases hle : Nat.ble (off + n) row.length with
    | false => rw [hle] at h; simp at h
    | true =>
    rw [hle] at h; simp only [cond_true, Option.some.injEq] at h
    subst h
    have hle' : off + n ≤ row.length := Nat.le_of_ble_eq_true hle
    obtain ⟨hsz, hob⟩ := hR.obj _ _ ho'
    rcases hob with ⟨h0, h1⟩ | ⟨b', cap', c, E, h0, hh, h1, h2, h3, h6, h7⟩
    · subst h1; simp at hrow
    have h00 := h0
    rw [hs0] at h0; injection h0 with h0; injection h0 with h0 _ h0'; injection h0 with h0; injection h0 with h0; subst h0; subst h0'
    have hnS := h6 rfl
    have hrl : row.length = sz := hsz.1 row (List.mem_of_getElem? hrow)
    have hidx : idx < rows.length := (List.getElem?_eq_some_iff.1 hrow).1
    have hmul : (idx + 1) * sz ≤ cap * sz := Nat.mul_le_mul_right _ (by omega)
    rw [Nat.add_mul] at hmul
    have hle2 : idx * sz + off + n ≤ c.size := by omega
    have hrun := run_storeVar (P := P) hT hn hh hys hcs.allPlain hle2
    generalize hw' : put w b (.cells (putCells c (idx * sz + off) y.cells.toList) E (0, 0)) = w' at hrun
    have hK : ∀ b' o, κ.S b' o → cellAt w' b' o = cellAt w b' o := fun b' o hs => by
      subst hw'; exact cell_of_heap (put_other (fun e => by subst e; exact hnS o hs)) o
    obtain ⟨hdl, hdr⟩ := dataAll_sound hR hl hds hcs
    have hdn : ds.length = n := by rw [hdl]; simp [hys]
    have hvl : y.cells.toList.length = n := by simp [hys]
    have hup := RS.update (κ' := κ) (w' := w') hR (id := id) (o1 := .arr ep true sz (rows.set idx (setD row off ds))) (B := b) ho' (.inl (by simp [blockOf, h00]))
      (fun _ _ h => h) hK (fun _ _ => rfl) (fun _ _ _ _ _ h => h) (fun _ _ _ _ _ => rfl) (fun _ _ h => .inl h) (fun b' _ hne => by subst hw'; exact put_other hne) (by subst hw'; rw [put_size]; exact Nat.le_refl _)
      (fun o hs => absurd hs (hnS o)) (by subst hw'; rfl) (by subst hw'; rfl) (by subst hw'; rfl) (by simp)
      (by
        refine ⟨⟨fun r hr => ?_, fun ep' l v hv => by rw [List.length_set]; exact hsz.2 ep' l v hv⟩, .inr ⟨b, cap, putCells c (idx * sz + off) y.cells.toList, E, by rw [List.length_set]; exact h00, by subst hw'; exact put_same hh, by rw [List.length_set]; exact h1, by rw [putCells_size (by rw [hvl]; exact hle2)]; exact h2, ?_, fun _ => hnS, fun hm => by simp at hm⟩⟩
        · obtain ⟨i, hi⟩ := List.mem_iff_getElem?.1 hr
          by_cases he : idx = i
          · subst he
            simp only [List.getElem?_set_self hidx, Option.some.injEq] at hi; subst hi
            simp only [setD, List.length_append, List.length_take, List.length_drop]; omega
          · rw [List.getElem?_set_ne he] at hi
            exact hsz.1 r (List.mem_of_getElem? hi)
        · intro i j r d hi hj
          rw [putCells_get (by rw [hvl]; exact hle2), hvl]
          by_cases he : idx = i
          · subst he
            simp only [List.getElem?_set_self hidx, Option.some.injEq] at hi
            · subst hi
              simp only [setD, List.append_assoc, hdn] at hj
              rw [List.getElem?_append, List.length_take, Nat.min_eq_left (by omega)] at hj
              by_cases hj1 : j < off
              · rw [if_pos hj1, List.getElem?_take, if_pos hj1] at hj
                obtain ⟨v, hv, hrd⟩ := h3 idx j row d hrow hj
                exact ⟨v, by rw [if_pos (by omega)]; exact hv, hrd.mono (fun _ _ h => h) hK⟩
              · rw [if_neg hj1, List.getElem?_append, hdn] at hj
                by_cases hj2 : j < off + n
                · rw [if_pos (by omega)] at hj
                  have hlt : j - off < y.cells.toList.length := by omega
                  refine ⟨y.cells.toList[j - off], ?_, (hdr (j - off) d _ hj (List.getElem?_eq_getElem hlt)).mono (fun _ _ h => h) hK⟩
                  rw [if_neg (by omega), if_pos (by omega), show idx * sz + j - (idx * sz + off) = j - off from by omega, List.getElem?_eq_getElem hlt]
                · rw [if_neg (by omega), List.getElem?_drop, show off + n + (j - off - n) = j from by omega] at hj
                  obtain ⟨v, hv, hrd⟩ := h3 idx j row d hrow hj
                  exact ⟨v, by rw [if_neg (by omega), if_neg (by omega)]; exact hv, hrd.mono (fun _ _ h => h) hK⟩
          · have hne := he
            rw [List.getElem?_set_ne he] at hi
            obtain ⟨v, hv, hrd⟩ := h3 i j r d hi hj
            have hjl : j < sz := by rw [← hsz.1 r (List.mem_of_getElem? hi)]; exact (List.getElem?_eq_some_iff.1 hj).1
            refine ⟨v, ?_, hrd.mono (fun _ _ h => h) hK⟩
            rcases Nat.lt_or_gt_of_ne hne with hlt | hgt
            · have : (idx + 1) * sz ≤ i * sz := Nat.mul_le_mul_right _ hlt
              rw [Nat.add_mul] at this
              rw [if_neg (by omega), if_neg (by omega)]; exact hv
            · have : (i + 1) * sz ≤ idx * sz := Nat.mul_le_mul_right _ hgt
              rw [Nat.add_mul] at this
              rw [if_pos (by omega)]; exact hv)
      (fun b' h => by simp only [blockOf, List.length_set, h00] at h; simp at h; exact h.symm)
      rfl
    refine ⟨Go.undef, w', κ, .inr ⟨?_, rfl⟩, .undef, rfl, hup.1, hup.2⟩
    have : (Instr.storeAt t (.pointer (some ⟨b, idx * sz + off, none⟩)) y).run P w = .ok () w' := hrun
    rw [run_bind this]; rfl
end
end Go.Am
/- The abstract machine: new variables, new arrays, new lists. -/
namespace Go.Am
/-- one block more; nothing else has turned -/
structure Grew (w w' : World) (o : Obj) : Prop where
  new : w'.heap[w.heap.size]? = some o
  size : w'.heap.size = w.heap.size + 1
  old : ∀ b, b < w.heap.size → w'.heap[b]? = w.heap[b]?
  os : w'.os = w.os
  tape : w'.tape = w.tape
  output : w'.output = w.output
theorem Grew.alloc (w : World) (o : Obj) : Grew w (alloc w o) o := ⟨alloc_new w o, alloc_size w o, fun _ h => alloc_old h, rfl, rfl, rfl⟩
section
variable {κ : K} {w w' : World} {σ : St} {nid : Nat}
theorem not_alive_dead (hn : σ[nid]? = some .dead) {i : Nat} (h : alive σ i = true) : i ≠ nid := by
  intro e; subst e; simp [alive, hn] at h
theorem alive_new (hn : σ[nid]? = some .dead) {o : Ob} (ho : o ≠ .dead) : alive (σ.set nid o) nid = true := by
  have : nid < σ.length := (List.getElem?_eq_some_iff.1 hn).1
  exact alive_iff.2 ⟨o, by simp [this], ho⟩
/-- a variable, a map -/
def K.atNew (κ : K) (id b : Nat) : K := { κ with at_ := fun i => if i = id then some b else κ.at_ i }
theorem ob_made [HasGlob] (hR : RS κ w σ) (hn : σ[nid]? = some .dead) {o : Obj} {o1 : Ob} (hg : Grew w w' o) (hne : o1 ≠ .dead)
    (h1 : Stays κ w (κ.atNew nid w.heap.size) w' (alive σ) → RO (κ.atNew nid w.heap.size) w' nid o1) (hb : ∀ b, blockOf (κ.atNew nid w.heap.size) nid o1 = some b → b = w.heap.size)
    (hu : o1.under (alive (σ.set nid o1)) = true) :
    Evo κ w σ (κ.atNew nid w.heap.size) w' (σ.set nid o1) ∧ RS (κ.atNew nid w.heap.size) w' (σ.set nid o1) := by
  have hK : ∀ b o, κ.S b o → cellAt w' b o = cellAt w b o := fun b o h => cell_of_heap (hg.old b (hR.inside b o h)) o
  have hat : ∀ i, alive σ i = true → (κ.atNew nid w.heap.size).at_ i = κ.at_ i := fun i hi => by simp [K.atNew, not_alive_dead hn hi]
  exact RS.update hR hn (B := w.heap.size) (.inr (Nat.le_refl _)) (fun _ _ h => h) hK hat (fun _ _ _ _ _ h => h) (fun _ _ _ _ _ => rfl) (fun _ _ h => .inl h) (fun b hb _ => hg.old b hb)
    (by rw [hg.size]; omega) (fun _ _ => by rw [hg.size]; omega) hg.os hg.tape hg.output hne (h1 ⟨fun _ _ h => h, hK, hat, fun _ _ _ _ _ h => h⟩) hb hu
theorem var_made [HasGlob] (hR : RS κ w σ) (hn : σ[nid]? = some .dead) {cs : List Cell} {c : Array Value} {E : TypeId} (hg : Grew w w' (.cells c E (0, 0))) (hc : RCs κ w cs c.toList)
    (hu : underAll (alive σ) cs = true) :
    Evo κ w σ (κ.atNew nid w.heap.size) w' (σ.set nid (.var cs)) ∧ RS (κ.atNew nid w.heap.size) w' (σ.set nid (.var cs)) ∧
      RV (κ.atNew nid w.heap.size) w' (.one (.ptr nid 0)) (.pointer (some ⟨w.heap.size, 0, none⟩)) ∧ (V.one (.ptr nid 0)).under (alive (σ.set nid (.var cs))) = true := by
  have hat : (κ.atNew nid w.heap.size).at_ nid = some w.heap.size := by simp [K.atNew]
  have h := ob_made (o1 := .var cs) hR hn hg (by simp) (fun hs => ⟨w.heap.size, c, E, hat, hg.new, hc.stays hs hu, fun o ho => absurd (hR.inside _ _ ho) (Nat.lt_irrefl _)⟩)
    (fun b hb => by simp only [blockOf, hat, Option.some.injEq] at hb; exact hb.symm) (underAll_mono (fun i hi => alive_set (by simp) hi) hu)
  exact ⟨h.1, h.2, .one _ _ (.ptr _ _ _ hat), alive_new hn (by simp)⟩
theorem map_made [HasGlob] (hR : RS κ w σ) (hn : σ[nid]? = some .dead) (hg : Grew w w' (.map #[] 0)) :
    Evo κ w σ (κ.atNew nid w.heap.size) w' (σ.set nid (.map [])) ∧ RS (κ.atNew nid w.heap.size) w' (σ.set nid (.map [])) ∧
      RV (κ.atNew nid w.heap.size) w' (.one (.map nid)) (.map (some w.heap.size)) ∧ (V.one (.map nid)).under (alive (σ.set nid (.map []))) = true := by
  have hat : (κ.atNew nid w.heap.size).at_ nid = some w.heap.size := by simp [K.atNew]
  have h := ob_made (o1 := .map []) hR hn hg (by simp) (fun _ => ⟨w.heap.size, #[], 0, hat, hg.new, rfl, fun o ho => absurd (hR.inside _ _ ho) (Nat.lt_irrefl _), fun i k x hx => by simp at hx⟩)
    (fun b hb => by simp only [blockOf, hat, Option.some.injEq] at hb; exact hb.symm) rfl
  exact ⟨h.1, h.2, .one _ _ (.map _ _ hat), alive_new hn (by simp)⟩
/-- cells of a row of elements, each as its data -/
def Lies (S : Nat → Nat → Prop) (w : World) (rows : List (List D)) (sz : Nat) (c : Array Value) : Prop :=
  ∀ (i j : Nat) (row : List D) (d : D), rows[i]? = some row → row[j]? = some d → ∃ v, c[i * sz + j]? = some v ∧ RD S w d v
theorem Lies.mono {S S' : Nat → Nat → Prop} {rows sz c} (hS : ∀ b o, S b o → S' b o) (hk : ∀ b o, S b o → cellAt w' b o = cellAt w b o) (h : Lies S w rows sz c) : Lies S' w' rows sz c :=
  fun i j row d hi hj => let ⟨v, hv, hd⟩ := h i j row d hi hj; ⟨v, hv, hd.mono hS hk⟩
/-- an array: of block B -/
def K.arrNew (κ : K) (id ep len : Nat) (v : Value) (S : Nat → Nat → Prop) : K :=
  { κ with S := S, sl := fun i e l => if i = id then (if e = ep ∧ l = len then some v else none) else κ.sl i e l }
def withBlock (S : Nat → Nat → Prop) (m : Bool) (B n : Nat) : Nat → Nat → Prop := fun b o => S b o ∨ (m = false ∧ b = B ∧ o < n)
theorem arr_made [HasGlob] (hR : RS κ w σ) (hn : σ[nid]? = some .dead) {rows : List (List D)} {sz cap : Nat} {m : Bool} {c : Array Value} {E : TypeId} (hg : Grew w w' (.cells c E (0, 0)))
    (hrow : ∀ r ∈ rows, r.length = sz) (hcap : rows.length ≤ cap) (hsz : cap * sz ≤ c.size) (hl : Lies κ.S w rows sz c) :
    let κ' := κ.arrNew nid 0 rows.length (.slice (some ⟨w.heap.size, 0, none⟩) rows.length cap) (withBlock κ.S m w.heap.size (rows.length * sz))
    Evo κ w σ κ' w' (σ.set nid (.arr 0 m sz rows)) ∧ RS κ' w' (σ.set nid (.arr 0 m sz rows)) ∧
      RV κ' w' (.one (.arr nid 0 rows.length)) (.slice (some ⟨w.heap.size, 0, none⟩) rows.length cap) ∧ (V.one (.arr nid 0 rows.length)).under (alive (σ.set nid (.arr 0 m sz rows))) = true := by
  intro κ'
  have hsl : κ'.sl nid 0 rows.length = some (.slice (some ⟨w.heap.size, 0, none⟩) rows.length cap) := by simp [κ', K.arrNew]
  have hK : ∀ b o, κ.S b o → cellAt w' b o = cellAt w b o := fun b o h => cell_of_heap (hg.old b (hR.inside b o h)) o
  have hS : ∀ b o, κ.S b o → κ'.S b o := fun b o h => .inl h
  have hno : ∀ o, ¬ κ.S w.heap.size o := fun o ho => absurd (hR.inside _ _ ho) (Nat.lt_irrefl _)
  have h := RS.update (κ' := κ') (w' := w') (o1 := .arr 0 m sz rows) (B := w.heap.size) hR hn (.inr (Nat.le_refl _)) hS hK (fun _ _ => rfl)
    (fun i ep len v hi hv => by simp [κ', K.arrNew, not_alive_dead hn hi, hv]) (fun i hi _ ep len => by simp [κ', K.arrNew, hi])
    (fun b o ho => ho.elim .inl (fun h => .inr h.2.1)) (fun b hb _ => hg.old b hb)
    (by rw [hg.size]; omega) (fun _ _ => by rw [hg.size]; omega) hg.os hg.tape hg.output (by simp)
    ⟨⟨hrow, fun ep' l v hv => by simp only [κ', K.arrNew, if_true] at hv; split at hv <;> simp_all⟩, .inr ⟨w.heap.size, cap, c, E, hsl, hg.new, hcap, hsz, hl.mono hS hK,
      fun hm o ho => by subst hm; exact ho.elim (hno o) (fun h => by simp at h), fun hm o => ⟨fun ho => ho.elim (fun h => absurd h (hno o)) (fun h => h.2.2), fun ho => .inr ⟨hm, rfl, ho⟩⟩⟩⟩
    (fun b hb => by simp only [blockOf, hsl, Option.some.injEq] at hb; exact hb.symm) rfl
  exact ⟨h.1, h.2, .one _ _ (.arr _ _ _ _ _ hsl), alive_new hn (by simp)⟩
theorem arr_nil [HasGlob] (hR : RS κ w σ) (hn : σ[nid]? = some .dead) (sz : Nat) (m : Bool) :
    let κ' := κ.arrNew nid 0 0 nilSlice κ.S
    Evo κ w σ κ' w (σ.set nid (.arr 0 m sz [])) ∧ RS κ' w (σ.set nid (.arr 0 m sz [])) ∧
      RV κ' w (.one (.arr nid 0 0)) nilSlice ∧ (V.one (.arr nid 0 0)).under (alive (σ.set nid (.arr 0 m sz []))) = true := by
  intro κ'
  have hsl : κ'.sl nid 0 0 = some nilSlice := by simp [κ', K.arrNew]
  have h := RS.update (κ' := κ') (w' := w) (o1 := .arr 0 m sz []) (B := w.heap.size) hR hn (.inr (Nat.le_refl _)) (fun _ _ h => h) (fun _ _ _ => rfl) (fun _ _ => rfl)
    (fun i ep len v hi hv => by simp [κ', K.arrNew, not_alive_dead hn hi, hv]) (fun i hi _ ep len => by simp [κ', K.arrNew, hi])
    (fun b o ho => .inl ho) (fun b hb _ => rfl)
    (Nat.le_refl _) (fun o ho => hR.inside _ _ ho) rfl rfl rfl (by simp)
    ⟨⟨fun r hr => by simp at hr, fun ep' l v hv => by simp only [κ', K.arrNew, if_true] at hv; split at hv <;> simp_all⟩, .inl ⟨hsl, rfl⟩⟩
    (fun b hb => by simp only [blockOf, List.length_nil, hsl, nilSlice] at hb; simp at hb) rfl
  exact ⟨h.1, h.2, .one _ _ (.arr _ _ _ _ _ hsl), alive_new hn (by simp)⟩
/-- a list that is made and never turned again -/
theorem list_made [HasGlob] (hR : RS κ w σ) {rows : List (List D)} {sz cap : Nat} {c : Array Value} {E : TypeId} {f : Nat × Nat} (hg : Grew w w' (.cells c E f))
    (hcap : rows.length ≤ cap) (hrow : ∀ r ∈ rows, r.length = sz) (hl : Lies κ.S w rows sz c) :
    let κ' : K := { κ with S := withBlock κ.S false w.heap.size (rows.length * sz) }
    Evo κ w σ κ' w' σ ∧ RS κ' w' σ ∧ RD κ'.S w' (.list rows) (.slice (some ⟨w.heap.size, 0, none⟩) rows.length cap) := by
  intro κ'
  have hK : ∀ b o, κ.S b o → cellAt w' b o = cellAt w b o := fun b o h => cell_of_heap (hg.old b (hR.inside b o h)) o
  have hS : ∀ b o, κ.S b o → κ'.S b o := fun b o h => .inl h
  have h := RS.fresh (κ' := κ') (w' := w') hR hS rfl rfl (fun b o ho => ho.elim .inl (fun h => .inr (by rw [h.2.1, hg.size]; omega))) (fun b hb => hg.old b hb) (by rw [hg.size]; omega) hg.os hg.tape hg.output
  refine ⟨h.1, h.2, ?_⟩
  have hval : ∀ i j : Nat, ∃ v : Value, ∀ row d, rows[i]? = some row → row[j]? = some d → c[i * sz + j]? = some v ∧ RD κ'.S w' d v := by
    intro i j
    cases hr : rows[i]? with
    | none => exact ⟨Go.undef, fun _ _ h => by simp at h⟩
    | some row =>
      cases hd : row[j]? with
      | none => exact ⟨Go.undef, fun row' d h h' => by injection h with h; subst h; rw [hd] at h'; simp at h'⟩
      | some d =>
        obtain ⟨v, hv, hrd⟩ := hl i j row d hr hd
        exact ⟨v, fun row' d' h h' => by injection h with h; subst h; rw [hd] at h'; injection h' with h'; subst h'; exact ⟨hv, hrd.mono hS hK⟩⟩
  refine .list w.heap.size 0 cap sz rows (fun i j => (hval i j).choose) hcap (fun i row hi => hrow row (List.mem_of_getElem? hi)) (fun i j row d hi hj => ?_) (fun i j row d hi hj => ((hval i j).choose_spec row d hi hj).2)
  have hlt : i < rows.length := (List.getElem?_eq_some_iff.1 hi).1
  have hjl : j < sz := by rw [← hrow row (List.mem_of_getElem? hi)]; exact (List.getElem?_eq_some_iff.1 hj).1
  have hmul : (i + 1) * sz ≤ rows.length * sz := Nat.mul_le_mul_right _ hlt
  rw [Nat.add_mul] at hmul
  exact ⟨.inr ⟨rfl, rfl, by omega⟩, by rw [cells_of_block hg.new, Nat.zero_add]; exact ((hval i j).choose_spec row d hi hj).1⟩
end
/-! what the small makers of the model do -/
section
variable {P : Program} {w : World}
theorem run_newRow (E : TypeId) (c : Array Value) : (newRow E c).run P w = .ok ⟨w.heap.size, 0, none⟩ (alloc w (.cells c E)) := rfl
theorem run_newVar (t : TypeId) (v : Value) : (newVar t v).run P w = .ok ⟨w.heap.size, 0, none⟩ (alloc w (.cells v.cells t)) := rfl
end
end Go.Am
