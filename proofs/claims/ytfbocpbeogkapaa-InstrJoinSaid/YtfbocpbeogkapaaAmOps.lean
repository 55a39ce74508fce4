/- The abstract machine: each operation does in the model what it does here. Part 1: reading, and what makes no object. -/
import Derived.Test.YtfbocpbeogkapaaAmSem
set_option linter.unusedVariables false
set_option linter.unusedSimpArgs false
namespace Go.Am

theorem RD.plain {S w x v} (h : RD S w x v) : plain v = true := by cases h <;> first | rfl | assumption
theorem RC.plain {κ w c v} (h : RC κ w c v) : plain v = true := by
  cases h <;> first | rfl | (rename_i h; exact h.plain)
theorem plain_cells {v : Value} (h : plain v = true) : v.cells = #[v] := by cases v <;> first | rfl | (simp [Am.plain] at h)
theorem RCs.allPlain {κ w} : ∀ {cs : List Cell} {vs : List Value}, RCs κ w cs vs → allPlain vs = true
  | [], [], _ => rfl
  | [], _ :: _, h => by have := h.1; simp at this
  | _ :: _, [], h => by have := h.1; simp at this
  | c :: cs, v :: vs, h => by
    simp only [Am.allPlain, Bool.and_eq_true]
    refine ⟨(h.2 0 c v rfl rfl).plain, RCs.allPlain (cs := cs) ⟨by have := h.1; simpa using this, fun i c' v' h1 h2 => h.2 (i + 1) c' v' (by simpa using h1) (by simpa using h2)⟩⟩
theorem RCs.nil {κ w} : RCs κ w [] [] := ⟨rfl, fun i c v h => by simp at h⟩
theorem RCs.cons {κ w c v cs vs} (h : RC κ w c v) (k : RCs κ w cs vs) : RCs κ w (c :: cs) (v :: vs) :=
  ⟨by simp [k.1], fun i c' v' h1 h2 => by
    cases i with
    | zero => simp at h1 h2; subst h1; subst h2; exact h
    | succ i => exact k.2 i c' v' (by simpa using h1) (by simpa using h2)⟩
theorem RCs.head {κ w c v cs vs} (h : RCs κ w (c :: cs) (v :: vs)) : RC κ w c v := h.2 0 c v rfl rfl
theorem RCs.tail {κ w c v cs vs} (h : RCs κ w (c :: cs) (v :: vs)) : RCs κ w cs vs :=
  ⟨by have := h.1; simpa using this, fun i c' v' h1 h2 => h.2 (i + 1) c' v' (by simpa using h1) (by simpa using h2)⟩
theorem RCs.drop {κ w} (n : Nat) {cs : List Cell} {vs : List Value} (h : RCs κ w cs vs) : RCs κ w (cs.drop n) (vs.drop n) :=
  ⟨by simp [h.1], fun i c v h1 h2 => h.2 (n + i) c v (by simpa using h1) (by simpa using h2)⟩
theorem RCs.take {κ w} (n : Nat) {cs : List Cell} {vs : List Value} (h : RCs κ w cs vs) : RCs κ w (cs.take n) (vs.take n) :=
  ⟨by simp [h.1], fun i c v h1 h2 => by
    rw [List.getElem?_take] at h1 h2
    split at h1
    · rename_i hi; rw [if_pos hi] at h2; exact h.2 i c v h1 h2
    · simp at h1⟩
theorem RCs.append {κ w} {cs cs' : List Cell} {vs vs' : List Value} (h : RCs κ w cs vs) (k : RCs κ w cs' vs') : RCs κ w (cs ++ cs') (vs ++ vs') :=
  ⟨by simp [h.1, k.1], fun i c v h1 h2 => by
    rw [List.getElem?_append] at h1 h2
    rw [← h.1] at h2
    split at h1
    · rename_i hi; rw [if_pos hi] at h2; exact h.2 i c v h1 h2
    · rename_i hi; rw [if_neg hi] at h2; exact k.2 _ c v h1 h2⟩

/-- a value out of cells -/
def ofMk (g : Bool) (vs : List Value) : Value := if g then .agg vs.toArray else vs.headD undef
theorem mk_sound {κ w} {g : Bool} {cs : List Cell} {v : V} {vs : List Value} (h : mk g cs = some v) (hc : RCs κ w cs vs) : RV κ w v (ofMk g vs) := by
  unfold mk at h
  cases g with
  | true => simp only [Option.some.injEq] at h; subst h; exact .agg _ _ (by simpa using hc)
  | false =>
    cases cs with
    | nil => simp at h
    | cons c r =>
      cases r with
      | cons _ _ => simp at h
      | nil =>
        simp only [Option.some.injEq] at h; subst h
        cases vs with
        | nil => have := hc.1; simp at this
        | cons y ys => exact .one c _ hc.head
theorem mk_false {cs : List Cell} {v : V} (h : mk false cs = some v) : cs.length = 1 := by
  unfold mk at h
  cases cs with
  | nil => simp at h
  | cons c r => cases r with
    | nil => rfl
    | cons _ _ => simp at h
theorem mk_under {L : Nat → Bool} {g : Bool} {cs : List Cell} {v : V} (h : mk g cs = some v) (hc : underAll L cs = true) : v.under L = true := by
  unfold mk at h
  cases g with
  | true => simp only [Option.some.injEq] at h; subst h; exact hc
  | false =>
    cases cs with
    | nil => simp at h
    | cons c r => cases r with
      | cons _ _ => simp at h
      | nil => simp only [Option.some.injEq] at h; subst h; simpa [V.under, underAll] using hc
theorem underAll_drop {L : Nat → Bool} (n : Nat) {cs : List Cell} (h : underAll L cs = true) : underAll L (cs.drop n) = true :=
  underAll_of fun i c hc => under_of_mem h (n + i) c (by simpa using hc)
theorem underAll_take {L : Nat → Bool} (n : Nat) {cs : List Cell} (h : underAll L cs = true) : underAll L (cs.take n) = true :=
  underAll_of fun i c hc => under_of_mem h i c (by rw [List.getElem?_take] at hc; split at hc <;> simp_all)
theorem underAll_d {L : Nat → Bool} (ds : List D) : underAll L (ds.map .d) = true :=
  underAll_of fun i c hc => by
    simp only [List.getElem?_map, Option.map_eq_some_iff] at hc
    obtain ⟨x, _, rfl⟩ := hc; rfl
theorem underAll_append {L : Nat → Bool} {a b : List Cell} (h : underAll L a = true) (k : underAll L b = true) : underAll L (a ++ b) = true := by
  induction a with
  | nil => exact k
  | cons c r ih =>
    simp only [underAll, Bool.and_eq_true, List.cons_append] at h ⊢
    exact ⟨h.1, ih h.2⟩

section
variable {P : Program} {T : Tab} {κ : K} {w : World} {σ : St} {look : Look}

/-- a variable is read -/
theorem run_loadVar (hT : T.fits P) {t n : Nat} {g : Bool} (hn : T.size t = some n) (hg : T.agg t = some g) (b o : Nat) (vs : List Value) (hl : vs.length = n)
    (h1 : g = false → n = 1) (h : ∀ (j : Nat) (v : Value), vs[j]? = some v → cellAt w b (o + j) = some v) :
    (loadVar t ⟨b, o, none⟩).run P w = .ok (ofMk g vs) w := by
  unfold loadVar
  rw [run_bind (run_isAgg hT hg)]
  cases g with
  | true =>
    simp only [if_true]
    rw [run_bind (run_sizeOf hT hn), run_bind (run_loadCells b o n vs hl h)]; rfl
  | false =>
    simp only [Bool.false_eq_true, if_false]
    have : vs.length = 1 := by rw [hl, h1 rfl]
    match vs, this with
    | [v], _ =>
      have := h 0 v rfl
      exact run_load this

theorem cells_of_block {b : Nat} {c : Array Value} {E : TypeId} {f : Nat × Nat} (h : w.heap[b]? = some (.cells c E f)) (o : Nat) : cellAt w b o = c[o]? := by
  simp [cellAt, World.cell?, h]

theorem load_sound (hT : T.fits P) (hR : RS κ w σ) (hl : ∀ id o, look id = some o → σ[id]? = some o) {t : TypeId} {a : Cell} {x : Value} {v : V}
    (h : loadFrom T t a look = some v) (ha : RC κ w a x) :
    ∃ y, (Instr.loadAt t x).run P w = .ok y w ∧ RV κ w v y ∧ v.under (alive σ) = true := by
  unfold loadFrom at h
  cases hn : T.size t with
  | none => simp [hn] at h
  | some n =>
  cases hg : T.agg t with
  | none => simp [hn, hg] at h
  | some g =>
  simp only [hn, hg] at h
  cases ha with
  | d x v hrd => simp at h
  | arr => simp at h
  | map => simp at h
  | fn => simp at h
  | ptr id off b hb =>
    simp only at h
    cases ho : look id with
    | none => simp [ho] at h
    | some o =>
    cases o <;> simp only [ho] at h <;> try simp at h
    rename_i cells
    have ho' := hl _ _ ho
    obtain ⟨b', c, E, hb', hh, hc, _⟩ := hR.obj _ _ ho'
    rw [hb] at hb'; injection hb' with hb'; subst hb'
    cases hle : Nat.ble (off + n) cells.length with
    | false => rw [hle] at h; simp at h
    | true =>
    rw [hle] at h; simp only [cond_true] at h
    have hle' : off + n ≤ cells.length := Nat.le_of_ble_eq_true hle
    have hcs := (hc.drop off).take n
    refine ⟨ofMk g ((c.toList.drop off).take n), ?_, mk_sound h hcs, mk_under h (underAll_take _ (underAll_drop _ (hR.inner _ _ ho')))⟩
    show (do let a ← Instr.sureAddr (.pointer (some ⟨b, off, none⟩)); loadVar t a : Sem Value).run P w = _
    refine (run_bind (a := (⟨b, off, none⟩ : Addr)) rfl).trans ?_
    refine run_loadVar hT hn hg b off _ ?_ ?_ ?_
    · simp [← hc.1]; omega
    · intro hf; subst hf
      have := mk_false h; simp at this; omega
    · intro j v hj
      rw [cells_of_block hh]
      rw [List.getElem?_take] at hj
      split at hj
      · simpa using hj
      · simp at hj
  | rptr ds b off hd =>
    simp only at h
    cases hle : Nat.ble n ds.length with
    | false => rw [hle] at h; simp at h
    | true =>
    rw [hle] at h; simp only [cond_true] at h
    have hle' : n ≤ ds.length := Nat.le_of_ble_eq_true hle
    have key : ∀ m, m ≤ ds.length → ∃ vs : List Value, vs.length = m ∧ (∀ (j : Nat) (v : Value), vs[j]? = some v → cellAt w b (off + j) = some v) ∧ RCs κ w ((ds.take m).map .d) vs := by
      intro m
      induction m with
      | zero => intro _; exact ⟨[], rfl, fun j v hj => by simp at hj, by simpa using RCs.nil⟩
      | succ m ih =>
        intro hm
        obtain ⟨vs, h1, h2, h3⟩ := ih (by omega)
        have hlt : m < ds.length := by omega
        obtain ⟨_, v, hv, hrd⟩ := hd m ds[m] (List.getElem?_eq_getElem hlt)
        refine ⟨vs ++ [v], by simp [h1], fun j u hj => ?_, ?_⟩
        · rw [List.getElem?_append] at hj
          split at hj
          · exact h2 j u hj
          · rename_i hnl
            have hjm : j = m := by
              by_cases he : j - vs.length = 0
              · omega
              · obtain ⟨k, hk⟩ : ∃ k, j - vs.length = k + 1 := ⟨j - vs.length - 1, by omega⟩
                rw [hk] at hj; simp at hj
            subst hjm
            rw [h1] at hj; simp at hj; subst hj; exact hv
        · rw [List.take_succ_eq_append_getElem hlt, List.map_append]
          exact h3.append (.cons (.d _ _ hrd) .nil)
    obtain ⟨vs, h1, h2, h3⟩ := key n hle'
    refine ⟨ofMk g vs, ?_, mk_sound h h3, mk_under h (underAll_d _)⟩
    refine (run_bind (a := (⟨b, off, none⟩ : Addr)) rfl).trans ?_
    refine run_loadVar hT hn hg b off _ h1 ?_ h2
    intro hf; subst hf
    have := mk_false h; simp at this; omega
  | eptr id ep len sz idx off b cap hs =>
    simp only at h
    cases ho : look id with
    | none => simp [ho] at h
    | some o =>
    cases o <;> simp only [ho] at h <;> try simp at h
    rename_i ep' m sz' rows
    have ho' := hl _ _ ho
    cases hc1 : (Nat.beq ep ep' && Nat.beq len rows.length) && Nat.beq sz sz' with
    | false => rw [hc1] at h; simp at h
    | true =>
    rw [hc1] at h; simp only [cond_true] at h
    simp only [Bool.and_eq_true, Nat.beq_eq] at hc1
    obtain ⟨⟨rfl, rfl⟩, rfl⟩ := hc1
    cases hrow : rows[idx]? with
    | none => rw [hrow] at h; simp at h
    | some row =>
    rw [hrow] at h; simp only at h
    cases hle : Nat.ble (off + n) row.length with
    | false => rw [hle] at h; simp at h
    | true =>
    rw [hle] at h; simp only [cond_true] at h
    have hle' : off + n ≤ row.length := Nat.le_of_ble_eq_true hle
    obtain ⟨hsz, hob⟩ := hR.obj _ _ ho'
    rcases hob with ⟨h0, h1⟩ | ⟨b', cap', c, E, h0, hh, h1, h2, h3, _⟩
    · subst h1; simp at hrow
    rw [hs] at h0; injection h0 with h0; injection h0 with h0 _ h0'; injection h0 with h0; injection h0 with h0; subst h0; subst h0'
    have key : ∀ k, k ≤ n → ∃ vs : List Value, vs.length = k ∧ (∀ (j : Nat) (v : Value), vs[j]? = some v → cellAt w b (idx * sz + off + j) = some v) ∧ RCs κ w (((row.drop off).take k).map .d) vs := by
      intro k
      induction k with
      | zero => intro _; exact ⟨[], rfl, fun j v hj => by simp at hj, by simpa using RCs.nil⟩
      | succ k ih =>
        intro hm
        obtain ⟨vs, g1, g2, g3⟩ := ih (by omega)
        have hlt : k < (row.drop off).length := by simp; omega
        have hlt' : off + k < row.length := by omega
        obtain ⟨v, hv, hrd⟩ := h3 idx (off + k) row row[off + k] hrow (List.getElem?_eq_getElem hlt')
        refine ⟨vs ++ [v], by simp [g1], fun j u hj => ?_, ?_⟩
        · rw [List.getElem?_append] at hj
          split at hj
          · exact g2 j u hj
          · rename_i hnl
            have hjm : j = k := by
              by_cases he : j - vs.length = 0
              · omega
              · obtain ⟨q, hq⟩ : ∃ q, j - vs.length = q + 1 := ⟨j - vs.length - 1, by omega⟩
                rw [hq] at hj; simp at hj
            subst hjm
            rw [g1] at hj; simp at hj; subst hj
            rw [cells_of_block hh, Nat.add_assoc]; exact hv
        · rw [List.take_succ_eq_append_getElem hlt, List.map_append]
          refine g3.append (.cons (.d _ _ ?_) .nil)
          simpa using hrd
    obtain ⟨vs, g1, g2, g3⟩ := key n (Nat.le_refl _)
    simp only [← List.map_drop, ← List.map_take] at h
    refine ⟨ofMk g vs, ?_, mk_sound h g3, mk_under h (underAll_d _)⟩
    refine (run_bind (a := (⟨b, idx * sz + off, none⟩ : Addr)) rfl).trans ?_
    refine run_loadVar hT hn hg b _ _ g1 ?_ g2
    intro hf; subst hf
    have := mk_false h; simp at this; omega
end

end Go.Am
