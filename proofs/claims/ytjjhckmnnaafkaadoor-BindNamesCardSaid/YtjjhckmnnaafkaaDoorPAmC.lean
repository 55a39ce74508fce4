/- A part of a proof: functions of the program walked over the abstract machine, and what they compute. -/
import Derived.Test.YtjjhckmnnaafkaaDoorPAmB
import Derived.Laws.BytesString
set_option linter.unusedVariables false
set_option linter.unusedSimpArgs false
/- The abstract machine: append. -/
namespace Go.Am
theorem nextslicecap_le {need old : Nat} (h : old < need) : Builtin.nextslicecap need old ≤ 2 * need := by
  have hg : ∀ (r c : Nat), 256 ≤ need → c ≤ 2 * need → (c ≥ need ∨ c < need) → Builtin.growBy need r c ≤ 2 * need := by
    intro r
    induction r with
    | zero => intro c _ h _; simpa [Builtin.growBy] using h
    | succ r ih =>
      intro c h0 h1 _
      simp only [Builtin.growBy]
      split
      · exact h1
      · refine ih _ h0 ?_ (by omega)
        omega
  unfold Builtin.nextslicecap
  split
  · omega
  · split
    · omega
    · exact hg 4 old (by omega) (by omega) (by omega)
section
variable {P : Program} {T : Tab} {κ : K} {w : World} {σ : St} {look : Look}
theorem vals_of (b off : Nat) : ∀ n, (∀ k, k < n → ∃ v, cellAt w b (off + k) = some v ∧ plain v = true) →
    ∃ vals : List Value, vals.length = n ∧ (∀ (j : Nat) (v : Value), vals[j]? = some v → cellAt w b (off + j) = some v) ∧ allPlain vals = true
  | 0, _ => ⟨[], rfl, fun j v h => by simp at h, rfl⟩
  | n + 1, h => by
    obtain ⟨vals, h1, h2, h3⟩ := vals_of b off n fun k hk => h k (by omega)
    obtain ⟨v, hv, hp⟩ := h n (by omega)
    refine ⟨vals ++ [v], by simp [h1], fun j u hj => ?_, ?_⟩
    · rw [List.getElem?_append] at hj
      split at hj
      · exact h2 j u hj
      · have : j = n := by
          by_cases he : j - vals.length = 0
          · omega
          · obtain ⟨q, hq⟩ : ∃ q, j - vals.length = q + 1 := ⟨j - vals.length - 1, by omega⟩
            rw [hq] at hj; simp at hj
        subst this; rw [h1] at hj; simp at hj; subst hj; exact hv
    · clear h1 h2
      induction vals with
      | nil => simp [Am.allPlain, hp]
      | cons x r ih => simp only [Am.allPlain, Bool.and_eq_true, List.cons_append] at h3 ⊢; exact ⟨h3.1, ih h3.2⟩
/-- what is appended, as the model finds it -/
structure Src (P : Program) (κ : K) (w : World) (y : Value) (xs : List (List D)) (sz : Nat) (vals : List Value) : Prop where
  len : ∀ w', (Builtin.lenOf y).run P w' = .ok xs.length w'
  cells : ∀ w', w'.heap = w.heap → (Builtin.firstCells sz xs.length y).run P w' = .ok vals.toArray w'
  size : vals.length = xs.length * sz
  plain : allPlain vals = true
  lies : Lies κ.S w xs sz vals.toArray
  rows : ∀ r ∈ xs, r.length = sz
theorem rowsOk_spec {sz : Nat} {rows : List (List D)} (h : rowsOk sz rows = true) : ∀ r ∈ rows, r.length = sz := by
  intro r hr
  simp only [rowsOk, List.all_eq_true] at h
  simpa using h r hr
theorem Src.nil (sz : Nat) (a : Option Addr) (cap : Nat) : Src P κ w (.slice a 0 cap) [] sz [] where
  len _ := rfl
  cells w' _ := by
    cases a with
    | none => rfl
    | some a => simp only [List.length_nil, Builtin.firstCells, Nat.zero_mul]; rfl
  size := by simp
  plain := rfl
  lies i j row d h := by simp at h
  rows r h := by simp at h
theorem cellAt_heap {w w' : World} (h : w'.heap = w.heap) (b o : Nat) : cellAt w' b o = cellAt w b o := by simp [cellAt, World.cell?, h]
theorem Src.row {b off cap sz : Nat} {xs : List (List D)} (hrow : ∀ r ∈ xs, r.length = sz)
    (h : ∀ (i j : Nat) (row : List D) (d : D), xs[i]? = some row → row[j]? = some d → ∃ v, cellAt w b (off + (i * sz + j)) = some v ∧ RD κ.S w d v) :
    ∃ vals, Src P κ w (.slice (some ⟨b, off, none⟩) xs.length cap) xs sz vals := by
  have hk : ∀ k, k < xs.length * sz → ∃ v, cellAt w b (off + k) = some v ∧ Am.plain v = true := by
    intro k hk
    have hsz : 0 < sz := by
      rcases Nat.eq_zero_or_pos sz with h | h
      · subst h; simp at hk
      · exact h
    have hi : k / sz < xs.length := by rw [Nat.div_lt_iff_lt_mul hsz]; exact hk
    have hj : k % sz < (xs[k / sz]).length := by rw [hrow _ (List.getElem_mem hi)]; exact Nat.mod_lt _ hsz
    obtain ⟨v, hv, hd⟩ := h (k / sz) (k % sz) _ _ (List.getElem?_eq_getElem hi) (List.getElem?_eq_getElem hj)
    refine ⟨v, ?_, hd.plain⟩
    rw [← hv]; congr 1
    have := Nat.div_add_mod k sz
    rw [Nat.mul_comm] at this; omega
  obtain ⟨vals, h1, h2, h3⟩ := vals_of b off _ hk
  refine ⟨vals, fun _ => rfl, fun w' hw' => ?_, h1, h3, fun i j row d hi hj => ?_, hrow⟩
  · exact run_loadCells b off _ vals h1 fun j v hj => by rw [cellAt_heap hw']; exact h2 j v hj
  · obtain ⟨v, hv, hd⟩ := h i j row d hi hj
    have hlt : i < xs.length := (List.getElem?_eq_some_iff.1 hi).1
    have hjl : j < sz := by rw [← hrow row (List.mem_of_getElem? hi)]; exact (List.getElem?_eq_some_iff.1 hj).1
    have hmul : (i + 1) * sz ≤ xs.length * sz := Nat.mul_le_mul_right _ hlt
    rw [Nat.add_mul] at hmul
    have hin : i * sz + j < vals.length := by omega
    have := h2 (i * sz + j) _ (List.getElem?_eq_getElem hin)
    rw [hv] at this; injection this with this
    exact ⟨v, by rw [this, List.getElem?_toArray]; exact List.getElem?_eq_getElem hin, hd⟩
theorem src_of [HasGlob] (hR : RS κ w σ) (hl : Sees σ look) {x : V} {y : Value} {xs : List (List D)} {sz : Nat} (h : rowsIn look x = some xs) (hv : RV κ w x y) (hok : rowsOk sz xs = true) :
    ∃ vals, Src P κ w y xs sz vals := by
  have hrow := rowsOk_spec hok
  unfold rowsIn at h
  split at h
  · rename_i rows
    injection h with h; subst h
    cases hv with | one _ _ hc => cases hc with | d _ _ hd =>
    cases hd with
    | nil a cap => exact ⟨[], Src.nil sz a cap⟩
    | list b off cap sz' rows vs hcap hr hc hrel =>
      cases rows with
      | nil => exact ⟨[], Src.nil sz _ cap⟩
      | cons r0 rs =>
        have : sz' = sz := by rw [← hr 0 r0 rfl, hrow r0 (by simp)]
        subst this
        exact Src.row hrow fun i j row d hi hj => ⟨_, (hc i j row d hi hj).2, hrel i j row d hi hj⟩
  · injection h with h; subst h
    cases hv with | one _ _ hc => cases hc with | d _ _ hd => cases hd with | sc _ _ => exact ⟨[], Src.nil sz none 0⟩
  · rename_i s
    injection h with h; subst h
    cases hv with | one _ _ hc => cases hc with | d _ _ hd => cases hd with | sc _ _ =>
    have hlen : (s.data.toList.map fun b => ([D.sc (.int .u8 b.toNat)] : List D)).length = s.size := by simp
    refine ⟨s.data.toList.map fun b => .int .u8 b.toNat, fun w' => ?_, fun w' _ => ?_, ?_, ?_, ?_, hrow⟩
    · rw [hlen]; rfl
    · rw [hlen]
      simp only [Builtin.firstCells]
      have : (s.extract 0 s.size).data = s.data := by
        simp [ByteArray.extract_zero_size]
      rw [this]
      show Result.ok _ _ = Result.ok _ _
      congr 1
      apply Array.ext'
      simp
    · rw [hlen]
      cases hs : s.data.toList with
      | nil => simp [show s.size = 0 from by have := congrArg List.length hs; simpa using this]
      | cons b bs =>
        have := hrow [D.sc (.int .u8 b.toNat)] (by rw [hs]; simp)
        simp at this; subst this
        rw [List.length_map, ← hs]; simp
    · clear hlen hrow hok
      induction s.data.toList with
      | nil => rfl
      | cons b bs ih => simp [Am.allPlain, Am.plain, ih]
    · intro i j row d hi hj
      simp only [List.getElem?_map, Option.map_eq_some_iff] at hi
      obtain ⟨b, hb, rfl⟩ := hi
      have hsz : sz = 1 := by
        have := hrow [D.sc (.int .u8 b.toNat)] (List.mem_map.2 ⟨b, List.mem_of_getElem? hb, rfl⟩)
        simpa using this.symm
      subst hsz
      cases j with
      | succ j => simp at hj
      | zero =>
        simp at hj; subst hj
        exact ⟨.int .u8 b.toNat, by simp [hb], .sc _ rfl⟩
  · rename_i id ep len
    unfold rowsOf at h
    cases ho : look id with
    | none => simp [ho] at h
    | some o =>
    cases o <;> simp only [ho] at h <;> try simp at h
    rename_i ep' m sz' rows'
    cases hc : (Nat.beq ep ep' && Nat.beq len rows'.length) with
    | false => rw [hc] at h; simp at h
    | true =>
    rw [hc] at h; injection h with h; subst h
    simp only [Bool.and_eq_true, Nat.beq_eq] at hc
    obtain ⟨rfl, rfl⟩ := hc
    obtain ⟨⟨h00, _⟩, h1⟩ := hR.obj _ _ (hl _ _ ho)
    cases hv with | one _ _ hc => cases hc with | arr _ _ _ a cap hs =>
    rcases h1 with ⟨h1, h2⟩ | ⟨b, cap', c, E, h1, h2, h3, h4, h5, h6, h7⟩
    · subst h2; rw [hs] at h1; injection h1 with h1; injection h1 with h1 _ h3; subst h1; subst h3
      exact ⟨[], Src.nil sz none 0⟩
    · rw [hs] at h1; injection h1 with h1; injection h1 with h1 _ h1'; subst h1; subst h1'
      cases rows' with
      | nil => exact ⟨[], Src.nil sz _ cap⟩
      | cons r0 rs =>
        have : sz' = sz := by rw [← h00 r0 (by simp), hrow r0 (by simp)]
        subst this
        refine Src.row hrow fun i j row d hi hj => ?_
        obtain ⟨v, hv, hd⟩ := h5 i j row d hi hj
        exact ⟨v, by rw [cells_of_block h2, Nat.zero_add]; exact hv, hd⟩
  · simp at h
end
end Go.Am
/- The abstract machine: append, the second part: the run of the model's append, and what it makes of an array. -/
namespace Go.Am
section
variable {P : Program} {T : Tab} {κ : K} {w : World} {σ : St} {look : Look}
/-- the element's facts -/
structure Elem (T : Tab) (t e : TypeId) (sz wb : Nat) : Prop where
  und : T.und t = some (.slice e)
  size : T.size e = some sz
  bytes : T.bytes e = some (wb + 1)
  zero : ∃ z, T.zero e = some z ∧ z.cells.size = sz ∧ allPlain z.cells.toList = true
theorem run_bytes (hT : T.fits P) {e wb : Nat} (h : T.bytes e = some wb) : ∃ i, (typeInfo e).run P w = .ok i w ∧ i.bytes = wb := by
  unfold Tab.bytes at h
  cases hg : T.get e with
  | none => rw [hg] at h; simp at h
  | some i => rw [hg] at h; simp at h; exact ⟨i, run_typeInfo hT hg, h⟩
def notInt (T : Tab) (t : TypeId) : Prop := ∃ d, T.und t = some d ∧ (∀ k, d ≠ .int k)
theorem run_append_fits (hT : T.fits P) {t e t' ty : TypeId} {sz wb : Nat} (hE : Elem T t e sz wb) (ht' : notInt T t') {base : Option Addr} {sLen sCap : Nat} {y : Value}
    {xs : List (List D)} {vals : List Value} (hs : Src P κ w y xs sz vals) (hfit : sLen + xs.length ≤ sCap) {w' : World}
    (hst : ∀ a, base = some a → (storeCells (a.add (sLen * sz)) vals).run P w = .ok () w') (hno : base = none → w' = w) :
    (Builtin.append_ #[t, t'] ty #[.slice base sLen sCap, y]).run P w = .ok (.slice base (sLen + xs.length) sCap) w' := by
  obtain ⟨d, hd, hdi⟩ := ht'
  unfold Builtin.append_
  simp only [List.getElem?_toArray, List.getElem?_cons_zero, List.getElem?_cons_succ]
  rw [run_bind (run_underlying hT hE.und)]
  simp only
  rw [run_bind (run_sizeOf hT hE.size)]
  rw [run_bind (run_underlying hT hd)]
  refine (run_bind (a := false) (w' := w) ?_).trans ?_
  · cases d <;> first | rfl | exact absurd rfl (hdi _)
  simp only [Bool.false_eq_true, if_false]
  rw [run_bind (hs.len w)]
  rw [if_pos hfit]
  simp only [Bool.not_false, if_true]
  rw [run_bind (hs.cells w rfl)]
  cases base with
  | none => rw [hno rfl]; rfl
  | some a =>
    simp only
    rw [run_bind (hst a rfl)]; rfl
theorem run_append_grows (hT : T.fits P) {t e t' ty : TypeId} {sz wb : Nat} (hE : Elem T t e sz wb) (ht' : notInt T t') {base : Option Addr} {sLen sCap : Nat} {y : Value}
    {xs : List (List D)} {vals olds : List Value} (hs : Src P κ w y xs sz vals) (hfit : sCap < sLen + xs.length) (hroom : (sLen + xs.length) * (wb + 1) ≤ most)
    (hold : ∀ w', w'.heap = w.heap → (Builtin.firstCells sz sLen (.slice base sLen sCap)).run P w' = .ok olds.toArray w') (hol : olds.length = sLen * sz) :
    ∃ cap c w', (Builtin.append_ #[t, t'] ty #[.slice base sLen sCap, y]).run P w = .ok (.slice (some ⟨w.heap.size, 0, none⟩) (sLen + xs.length) cap) w' ∧
      Grew w w' (.cells c e (0, 0)) ∧ sLen + xs.length ≤ cap ∧ c.size = cap * sz ∧ (∀ i, i < (sLen + xs.length) * sz → c[i]? = (olds ++ vals)[i]?) := by
  obtain ⟨d, hd, hdi⟩ := ht'
  obtain ⟨z, hz0, hz1, _⟩ := hE.zero
  obtain ⟨ie, hie, hib⟩ := run_bytes (P := P) (w := w) hT hE.bytes
  have hroom' : (sLen + xs.length) * (wb + 1) ≤ 2 ^ 47 := hroom
  have hneed : sLen + xs.length ≤ 2 ^ 47 := Nat.le_trans (Nat.le_mul_of_pos_right _ (by omega)) hroom'
  generalize hnd : sLen + xs.length = need at *
  let q := Question.appendCap need sCap e
  let cap := q.cut (w.tape w.drawn q)
  have hcap : need ≤ cap := by simp only [cap, q, Question.cut]; omega
  let w1 : World := { w with drawn := w.drawn + 1 }
  have hch : (choose q).run P w = .ok cap w1 := by simp [choose, Sem.run, Question.forced, q, cap, w1]
  obtain ⟨ie1, hie1, hib1⟩ := run_bytes (P := P) (w := w1) hT hE.bytes
  let c : Array Value := olds.toArray ++ vals.toArray ++ Builtin.zeroCells z.cells (cap - need)
  have hzs : (Builtin.zeroCells z.cells (cap - need)).size = (cap - need) * sz := by simp [Builtin.zeroCells, hz1]
  refine ⟨cap, c, alloc w1 (.cells c e), ?_, ⟨alloc_new w1 _, alloc_size w1 _, fun b hb => alloc_old (w := w1) hb, rfl, rfl, rfl⟩, hcap, ?_, ?_⟩
  · unfold Builtin.append_
    simp only [List.getElem?_toArray, List.getElem?_cons_zero, List.getElem?_cons_succ]
    rw [run_bind (run_underlying hT hE.und)]
    simp only
    rw [run_bind (run_sizeOf hT hE.size)]
    rw [run_bind (run_underlying hT hd)]
    refine (run_bind (a := false) (w' := w) ?_).trans ?_
    · cases d <;> first | rfl | exact absurd rfl (hdi _)
    simp only [Bool.false_eq_true, if_false]
    rw [run_bind (hs.len w)]
    rw [hnd]
    rw [if_neg (by omega)]
    simp only [Bool.not_false, if_true, false_or]
    rw [run_bind hie]
    rw [if_neg (by rintro ⟨_, h⟩; rw [hib] at h; omega)]
    rw [run_bind hie]
    rw [if_neg (by
      rw [hib]
      have h1 := nextslicecap_le hfit
      have h2 : Builtin.nextslicecap need sCap * (wb + 1) ≤ 2 * need * (wb + 1) := Nat.mul_le_mul_right _ h1
      rw [Nat.mul_assoc] at h2; omega)]
    rw [run_bind hch]
    rw [run_bind hie1]
    have hroom1 : (askRoom (cap * ie1.bytes)).run P w1 = .ok () w1 := by
      unfold askRoom; split <;> rfl
    rw [run_bind hroom1]
    rw [run_bind (hold w1 rfl)]
    rw [run_bind (hs.cells w1 rfl)]
    rw [run_bind (run_zeroValue hT hz0)]
    rfl
  · simp only [c, Array.size_append, hzs]
    simp only [List.size_toArray, hol, hs.size]
    rw [← Nat.add_mul, hnd, ← Nat.add_mul]
    congr 1; omega
  · intro i hi
    simp only [c]
    have hsz2 : (olds.toArray ++ vals.toArray).size = need * sz := by
      simp only [Array.size_append, List.size_toArray, hol, hs.size]; rw [← Nat.add_mul, hnd]
    rw [Array.getElem?_append, if_pos (by rw [hsz2]; exact hi)]
    simp
end
end Go.Am
/- The abstract machine: append, the third part: its soundness. -/
namespace Go.Am
def K.arrMore (κ : K) (id ep len : Nat) (v : Value) (S : Nat → Nat → Prop) : K :=
  { κ with S := S, sl := fun i e l => if i = id ∧ e = ep ∧ l = len then some v else κ.sl i e l }
theorem set_same {α : Type} {l : List α} {i : Nat} {x : α} (h : l[i]? = some x) : l.set i x = l := by
  apply List.ext_getElem?
  intro j
  by_cases hj : i = j
  · subst hj; rw [List.getElem?_set_self (List.getElem?_eq_some_iff.1 h).1, h]
  · rw [List.getElem?_set_ne hj]
section
variable {P : Program} {T : Tab} {κ : K} {w : World} {σ : St} {look : Look}
theorem arr_moved [HasGlob] (hR : RS κ w σ) {id ep sz cap B : Nat} {m : Bool} {rows rows' : List (List D)} {c : Array Value} {E : TypeId} {w' : World}
    (h0 : σ[id]? = some (.arr ep m sz rows)) (hB : blockOf κ id (.arr ep m sz rows) = some B ∨ w.heap.size ≤ B) (hlt : rows.length < rows'.length)
    (hK : ∀ b o, κ.S b o → cellAt w' b o = cellAt w b o) (hnew : w'.heap[B]? = some (.cells c E (0, 0)))
    (hframe : ∀ b, b < w.heap.size → b ≠ B → w'.heap[b]? = w.heap[b]?) (hsize : w.heap.size ≤ w'.heap.size)
    (os : w'.os = w.os) (tape : w'.tape = w.tape) (output : w'.output = w.output)
    (hrow : ∀ r ∈ rows', r.length = sz) (hcap : rows'.length ≤ cap) (hsz : cap * sz ≤ c.size) (hl : Lies κ.S w rows' sz c)
    (hSB : ∀ o, κ.S B o → m = false ∧ o < rows'.length * sz) :
    let κ' := κ.arrMore id ep rows'.length (.slice (some ⟨B, 0, none⟩) rows'.length cap) (withBlock κ.S m B (rows'.length * sz))
    Evo κ w σ κ' w' (σ.set id (.arr ep m sz rows')) ∧ RS κ' w' (σ.set id (.arr ep m sz rows')) ∧
      RV κ' w' (.one (.arr id ep rows'.length)) (.slice (some ⟨B, 0, none⟩) rows'.length cap) ∧ (V.one (.arr id ep rows'.length)).under (alive (σ.set id (.arr ep m sz rows'))) = true := by
  intro κ'
  have hlid : id < σ.length := (List.getElem?_eq_some_iff.1 h0).1
  obtain ⟨⟨_, hfr⟩, _⟩ := hR.obj _ _ h0
  have hsl : κ'.sl id ep rows'.length = some (.slice (some ⟨B, 0, none⟩) rows'.length cap) := by simp [κ', K.arrMore]
  have hS : ∀ b o, κ.S b o → κ'.S b o := fun b o h => .inl h
  have h := RS.update (κ' := κ') (w' := w') (o1 := .arr ep m sz rows') (B := B) hR h0 hB hS hK (fun _ _ => rfl)
    (fun i e len v hi hv => by
      simp only [κ', K.arrMore]
      split
      · rename_i hx
        obtain ⟨rfl, rfl, rfl⟩ := hx
        rcases hfr _ _ _ hv with h | ⟨_, h⟩ <;> omega
      · exact hv)
    (fun i hi _ e len => by simp [κ', K.arrMore, hi])
    (fun b o ho => ho.elim .inl (fun h => .inr h.2.1)) hframe hsize (fun _ _ => lt_of_heap hnew) os tape output (by simp)
    ⟨⟨hrow, fun ep' l v hv => by
        simp only [κ', K.arrMore] at hv
        split at hv
        · rename_i hx; exact .inr ⟨hx.2.1, by rw [hx.2.2]; exact Nat.le_refl _⟩
        · rcases hfr _ _ _ hv with h | ⟨h1, h2⟩
          · exact .inl h
          · exact .inr ⟨h1, by omega⟩⟩,
      .inr ⟨B, cap, c, E, hsl, hnew, hcap, hsz, hl.mono hS hK,
        fun hm o ho => by
          rcases ho with ho | ho
          · have := (hSB o ho).1; rw [hm] at this; simp at this
          · have := ho.1; rw [hm] at this; simp at this,
        fun hm o => ⟨fun ho => ho.elim (fun h => (hSB o h).2) (fun h => h.2.2), fun ho => .inr ⟨hm, rfl, ho⟩⟩⟩⟩
    (fun b hb => by simp only [blockOf, hsl, Option.some.injEq] at hb; exact hb.symm) rfl
  exact ⟨h.1, h.2, .one _ _ (.arr _ _ _ _ _ hsl), alive_iff.2 ⟨_, by rw [List.getElem?_set_self hlid], by simp⟩⟩
/-- what is appended lies behind what was there -/
theorem Lies.append {S : Nat → Nat → Prop} {rows xs : List (List D)} {sz : Nat} {c : Array Value} {olds vals : List Value} (hr : ∀ r ∈ rows, r.length = sz) (hx : ∀ r ∈ xs, r.length = sz)
    (hol : olds.length = rows.length * sz) (h1 : Lies S w rows sz olds.toArray) (h2 : Lies S w xs sz vals.toArray)
    (hc : ∀ i, i < (rows.length + xs.length) * sz → c[i]? = (olds ++ vals)[i]?) : Lies S w (rows ++ xs) sz c := by
  intro i j row d hi hj
  have hmem : ∀ (l : List (List D)) (n : Nat), (∀ r ∈ l, r.length = sz) → ∀ k, l[k]? = some row → l.length = n → k * sz + j < n * sz := by
    intro l n hl k hk hn
    have hjl : j < sz := by rw [← hl row (List.mem_of_getElem? hk)]; exact (List.getElem?_eq_some_iff.1 hj).1
    have hlt : k < l.length := (List.getElem?_eq_some_iff.1 hk).1
    have hmul : (k + 1) * sz ≤ n * sz := Nat.mul_le_mul_right _ (by omega)
    rw [Nat.add_mul] at hmul; omega
  rw [List.getElem?_append] at hi
  split at hi
  · rename_i hlt
    obtain ⟨v, hv, hd⟩ := h1 i j row d hi hj
    have hlt2 := hmem rows rows.length hr i hi rfl
    refine ⟨v, ?_, hd⟩
    rw [hc _ (by rw [Nat.add_mul]; omega), List.getElem?_append, if_pos (by omega)]
    simpa using hv
  · rename_i hge
    obtain ⟨v, hv, hd⟩ := h2 (i - rows.length) j row d hi hj
    have hlt2 := hmem xs xs.length hx (i - rows.length) hi rfl
    have he : i * sz = rows.length * sz + (i - rows.length) * sz := by rw [← Nat.add_mul]; congr 1; omega
    refine ⟨v, ?_, hd⟩
    rw [hc _ (by rw [Nat.add_mul]; omega), List.getElem?_append, if_neg (by omega), show i * sz + j - olds.length = (i - rows.length) * sz + j from by omega]
    simpa using hv
theorem elem_of {t e : TypeId} {sz wb : Nat} {z : List Cell} (h1 : T.elem t = some e) (h2 : T.size e = some sz) (h3 : T.bytes e = some (wb + 1)) (h4 : zeroCells T e = some z) (h5 : z.length = sz) :
    Elem T t e sz wb := by
  refine ⟨?_, h2, h3, ?_⟩
  · unfold Tab.elem at h1
    split at h1
    · rename_i e' he; injection h1 with h1; subst h1; exact he
    · simp at h1
  · unfold zeroCells at h4
    cases hz : T.zero e with
    | none => rw [hz] at h4; simp at h4
    | some z' =>
      rw [hz] at h4; simp only at h4
      cases hp : allPlain z'.cells.toList with
      | false => rw [hp] at h4; simp at h4
      | true =>
        rw [hp] at h4; simp only [cond_true, Option.some.injEq] at h4; subst h4
        exact ⟨z', rfl, by simpa [ofCells] using h5, hp⟩
theorem append_sound [HasGlob] (hT : T.fits P) (hR : RS κ w σ) (hl : Sees σ look) {nid : Nat} {mode : Option Bool} {t t' ty : TypeId} {s x v : V} {u : Upd} {sv y : Value}
    (h : appendOf T nid mode t s x look = some (v, u)) (hs : RV κ w s sv) (hx : RV κ w x y) (ht' : notInt T t') (hn : mode.isSome = true → σ[nid]? = some .dead) :
    OpOk κ w σ ((do pure (Next.value (← Builtin.append_ #[t, t'] ty #[sv, y])) : Sem Next).run P w) v u := by
  unfold appendOf at h
  cases he : T.elem t with
  | none => simp [he] at h
  | some e =>
  cases hxs : rowsIn look x with
  | none => simp [he, hxs] at h
  | some xs =>
  simp only [he, hxs] at h
  cases hsz : T.size e with
  | none => simp [hsz] at h
  | some sz =>
  cases hwb : T.bytes e with
  | none => simp [hsz, hwb] at h
  | some wb =>
  cases wb with
  | zero => simp [hsz, hwb] at h
  | succ wb =>
  cases hz : zeroCells T e with
  | none => simp [hsz, hwb, hz] at h
  | some z =>
  simp only [hsz, hwb, hz] at h
  cases hok : rowsOk sz xs && Nat.beq z.length sz with
  | false => rw [hok] at h; simp at h
  | true =>
  rw [hok] at h; simp only [cond_true] at h
  simp only [Bool.and_eq_true, Nat.beq_eq] at hok
  have hE := elem_of he hsz hwb hz hok.2
  obtain ⟨vals, hsrc⟩ := src_of (P := P) hR hl hxs hx hok.1
  split at h
  · -- onto nil
    cases hs with | one _ _ hc => cases hc with | d _ _ hd => cases hd with | sc _ _ =>
    cases hroom : Nat.ble (xs.length * (wb + 1)) most with
    | false => rw [hroom] at h; simp at h
    | true =>
    rw [hroom] at h; simp only [cond_true] at h
    have hroom' := Nat.le_of_ble_eq_true hroom
    cases hxl : xs with
    | nil =>
      subst hxl
      have hrun := run_append_fits (P := P) (ty := ty) (w' := w) (base := none) (sLen := 0) (sCap := 0) hT hE ht' hsrc (Nat.le_refl _) (fun a ha => by simp at ha) (fun _ => rfl)
      cases mode with
      | none =>
        simp only [Option.some.injEq, Prod.mk.injEq] at h; obtain ⟨rfl, rfl⟩ := h
        exact .quiet hR (by rw [run_bind hrun]; rfl) (.one _ _ (.d _ _ (.nil _ _))) rfl
      | some m =>
        simp only [Option.some.injEq, Prod.mk.injEq] at h; obtain ⟨rfl, rfl⟩ := h
        obtain ⟨h1, h2, h3, h4⟩ := arr_nil hR (hn rfl) sz m
        exact ⟨_, _, _, .inl (by rw [run_bind hrun]; rfl), h3, h4, h1, h2⟩
    | cons x0 xr =>
      have hpos : 0 < 0 + xs.length := by rw [hxl]; simp
      obtain ⟨cap, c, w', hrun, hg, hcap, hcs, hcc⟩ := run_append_grows (P := P) (ty := ty) (base := none) (sLen := 0) (sCap := 0) (olds := []) hT hE ht' hsrc hpos (by simpa using hroom') (fun _ _ => rfl) (by simp)
      have hlies : Lies κ.S w xs sz c := by
        have := Lies.append (w := w) (S := κ.S) (rows := []) (xs := xs) (olds := []) (vals := vals) (c := c) (by simp) hsrc.rows (by simp) (fun i j row d hi => by simp at hi) hsrc.lies (by simpa using hcc)
        simpa using this
      simp only [Nat.zero_add] at hrun hcap
      cases mode with
      | none =>
        simp only [Option.some.injEq, Prod.mk.injEq] at h; obtain ⟨rfl, rfl⟩ := h
        obtain ⟨h1, h2, h3⟩ := list_made (cap := cap) hR hg hcap hsrc.rows hlies
        exact ⟨_, _, _, .inl (by rw [run_bind hrun]; rfl), .one _ _ (.d _ _ h3), rfl, h1, h2⟩
      | some m =>
        simp only [Option.some.injEq, Prod.mk.injEq] at h; obtain ⟨rfl, rfl⟩ := h
        obtain ⟨h1, h2, h3, h4⟩ := arr_made (m := m) hR (hn rfl) hg hsrc.rows hcap (by omega) hlies
        exact ⟨_, _, _, .inl (by rw [run_bind hrun]; rfl), h3, h4, h1, h2⟩
  · -- onto an array
    rename_i id ep len
    cases ho : look id with
    | none => simp [ho] at h
    | some o =>
    cases o <;> simp only [ho] at h <;> try simp at h
    rename_i ep' m sz' rows
    cases hc : (Nat.beq ep ep' && Nat.beq len rows.length) && Nat.beq sz' sz && Nat.ble ((rows.length + xs.length) * (wb + 1)) most with
    | false => rw [hc] at h; simp at h
    | true =>
    rw [hc] at h; simp only [cond_true, Option.some.injEq, Prod.mk.injEq] at h; obtain ⟨rfl, rfl⟩ := h
    simp only [Bool.and_eq_true, Nat.beq_eq] at hc
    obtain ⟨⟨⟨rfl, rfl⟩, rfl⟩, hroom⟩ := hc
    have hroom' := Nat.le_of_ble_eq_true hroom
    have ho' := hl _ _ ho
    have hob := hR.obj _ _ ho'
    obtain ⟨⟨hrows, hfr⟩, hob⟩ := hob
    cases hs with | one _ _ hc => cases hc with | arr _ _ _ a cap hsl0 =>
    cases hxl : xs with
    | nil =>
      -- nothing is appended
      subst hxl
      simp only [List.length_nil, Nat.add_zero, List.append_nil]
      have hupd : St.upd σ [(id, Ob.arr ep m sz' rows)] = σ := set_same ho'
      have hcap : rows.length ≤ cap := by
        rcases hob with ⟨h1, h2⟩ | ⟨b, cap', c, E, h1, _, h3, _⟩
        · subst h2; simp
        · rw [hsl0] at h1; injection h1 with h1; injection h1 with _ _ h1; omega
      have hvn : vals = [] := List.length_eq_zero_iff.1 (by rw [hsrc.size]; simp)
      have hrun := run_append_fits (P := P) (ty := ty) (w' := w) (base := a) (sLen := rows.length) (sCap := cap) hT hE ht' hsrc (by simpa using hcap) (fun a ha => by subst hvn; rfl) (fun _ => rfl)
      refine ⟨_, w, κ, .inl (by rw [run_bind hrun]; rfl), .one _ _ (.arr _ _ _ a cap hsl0), ?_, by rw [hupd]; exact .refl, by rw [hupd]; exact hR⟩
      rw [hupd]; exact alive_iff.2 ⟨_, ho', by simp⟩
    | cons x0 xr =>
      have hpos : rows.length < rows.length + xs.length := by rw [hxl]; simp
      rw [← hxl]
      have hlen : (rows ++ xs).length = rows.length + xs.length := by simp
      have hallrow : ∀ r ∈ rows ++ xs, r.length = sz' := fun r hr => (List.mem_append.1 hr).elim (hrows r) (hsrc.rows r)
      rcases hob with ⟨h1, h2⟩ | ⟨b, cap', c, E, h1, h2, h3, h4, h5, h6, h7⟩
      · -- it was nil
        subst h2
        rw [hsl0] at h1; injection h1 with h1; injection h1 with h1 h1' h1''; subst h1; subst h1''
        obtain ⟨cap, c, w', hrun, hg, hcap, hcs, hcc⟩ := run_append_grows (P := P) (ty := ty) (base := none) (sLen := 0) (sCap := 0) (olds := []) hT hE ht' hsrc (by simpa using hpos) (by simpa using hroom') (fun _ _ => rfl) (by simp)
        have hlies : Lies κ.S w ([] ++ xs) sz' c :=
          Lies.append (w := w) (S := κ.S) (rows := []) (xs := xs) (olds := []) (vals := vals) (c := c) (by simp) hsrc.rows (by simp) (fun i j row d hi => by simp at hi) hsrc.lies (by simpa using hcc)
        obtain ⟨g1, g2, g3, g4⟩ := arr_moved (rows' := [] ++ xs) (cap := cap) hR ho' (.inr (Nat.le_refl _)) (by simpa using hpos)
          (fun b o h => cell_of_heap (hg.old b (hR.inside b o h)) o) hg.new (fun b hb _ => hg.old b hb) (by rw [hg.size]; omega) hg.os hg.tape hg.output hallrow (by simpa using hcap) (by omega) hlies
          (fun o ho => absurd (hR.inside _ _ ho) (Nat.lt_irrefl _))
        simp only [List.length_nil, Nat.zero_add, List.nil_append] at g1 g2 g3 g4 hrun ⊢
        exact ⟨_, _, _, .inl (by rw [run_bind hrun]; rfl), g3, g4, g1, g2⟩
      · have h1' := h1
        rw [hsl0] at h1; injection h1 with h1; injection h1 with h1 _ h1''; subst h1; subst h1''
        have hblk : blockOf κ id (.arr ep m sz' rows) = some b := by simp [blockOf, h1']
        by_cases hfit : rows.length + xs.length ≤ cap
        · -- there is room
          have hvl : vals.length = xs.length * sz' := hsrc.size
          have hle : rows.length * sz' + vals.length ≤ c.size := by
            rw [hvl, ← Nat.add_mul]; exact Nat.le_trans (Nat.mul_le_mul_right _ hfit) h4
          have hst := run_storeCells (P := P) (E := E) (b := b) (o := rows.length * sz') vals 0 w c h2 hsrc.plain (by simpa using hle)
          generalize hw' : put w b (.cells (putCells c (rows.length * sz' + 0) vals) E (0, 0)) = w' at hst
          simp only [Nat.add_zero] at hw'
          have hrun := run_append_fits (P := P) (ty := ty) (w' := w') (base := some ⟨b, 0, none⟩) (sLen := rows.length) (sCap := cap) hT hE ht' hsrc hfit
            (fun a ha => by injection ha with ha; subst ha; rw [addr_add, Nat.zero_add]; exact hst) (fun h => by simp at h)
          have hnewb : w'.heap[b]? = some (.cells (putCells c (rows.length * sz') vals) E (0, 0)) := by subst hw'; exact put_same h2
          have hK : ∀ b' o, κ.S b' o → cellAt w' b' o = cellAt w b' o := by
            intro b' o hso
            by_cases hb : b' = b
            · subst hb
              have hmf : m = false := by
                cases m with
                | false => rfl
                | true => exact absurd hso (h6 rfl o)
              have hlt := (h7 hmf o).1 hso
              rw [cells_of_block hnewb, cells_of_block h2, putCells_get hle, if_pos hlt]
            · subst hw'; exact cell_of_heap (put_other hb) o
          have hlies : Lies κ.S w (rows ++ xs) sz' (putCells c (rows.length * sz') vals) := by
            refine Lies.append (w := w) (S := κ.S) (rows := rows) (xs := xs) (olds := c.toList.take (rows.length * sz')) (vals := vals) hrows hsrc.rows (by simp; omega) ?_ hsrc.lies ?_
            · intro i j row d hi hj
              obtain ⟨v, hv, hd⟩ := h5 i j row d hi hj
              refine ⟨v, ?_, hd⟩
              have hjl : j < sz' := by rw [← hrows row (List.mem_of_getElem? hi)]; exact (List.getElem?_eq_some_iff.1 hj).1
              have hil : i < rows.length := (List.getElem?_eq_some_iff.1 hi).1
              have hmul : (i + 1) * sz' ≤ rows.length * sz' := Nat.mul_le_mul_right _ hil
              rw [Nat.add_mul] at hmul
              simp only [List.getElem?_toArray, List.getElem?_take]
              rw [if_pos (by omega), Array.getElem?_toList]; exact hv
            · intro i hi
              rw [putCells_get hle]
              rw [Nat.add_mul, ← hvl] at hi
              rw [List.getElem?_append, List.length_take, Nat.min_eq_left (by simp; omega)]
              by_cases hi1 : i < rows.length * sz'
              · rw [if_pos hi1, if_pos hi1, List.getElem?_take, if_pos hi1, Array.getElem?_toList]
              · rw [if_neg hi1, if_pos hi, if_neg hi1]
          obtain ⟨g1, g2, g3, g4⟩ := arr_moved (rows' := rows ++ xs) (cap := cap) (w' := w') hR ho' (.inl hblk) (by rw [hlen]; exact hpos)
            hK hnewb (fun b' _ hne => by subst hw'; exact put_other hne) (by subst hw'; rw [put_size]; exact Nat.le_refl _) (by subst hw'; rfl) (by subst hw'; rfl) (by subst hw'; rfl) hallrow (by rw [hlen]; exact hfit)
            (by rw [putCells_size hle]; exact h4) hlies
            (fun o hso => by
              cases m with
              | true => exact absurd hso (h6 rfl o)
              | false => exact ⟨rfl, by have := (h7 rfl o).1 hso; rw [hlen, Nat.add_mul]; omega⟩)
          rw [hlen] at g1 g2 g3 g4
          exact ⟨_, _, _, .inl (by rw [run_bind hrun]; rfl), g3, g4, g1, g2⟩
        · -- a new block
          have holds : (c.toList.take (rows.length * sz')).length = rows.length * sz' := by
            have : rows.length * sz' ≤ cap * sz' := Nat.mul_le_mul_right _ h3
            simp; omega
          obtain ⟨cap2, c2, w', hrun, hg, hcap2, hcs2, hcc2⟩ := run_append_grows (P := P) (ty := ty) (base := some ⟨b, 0, none⟩) (sLen := rows.length) (sCap := cap) (olds := c.toList.take (rows.length * sz')) hT hE ht' hsrc (by omega) hroom'
            (fun w2 hw2 => run_loadCells b 0 _ _ holds fun j v hj => by
              rw [cellAt_heap hw2, cells_of_block h2, Nat.zero_add]
              rw [List.getElem?_take] at hj
              split at hj
              · rw [← Array.getElem?_toList]; exact hj
              · simp at hj) holds
          have hlies : Lies κ.S w (rows ++ xs) sz' c2 := by
            refine Lies.append (w := w) (S := κ.S) (rows := rows) (xs := xs) (olds := c.toList.take (rows.length * sz')) (vals := vals) hrows hsrc.rows holds ?_ hsrc.lies hcc2
            intro i j row d hi hj
            obtain ⟨v, hv, hd⟩ := h5 i j row d hi hj
            refine ⟨v, ?_, hd⟩
            have hjl : j < sz' := by rw [← hrows row (List.mem_of_getElem? hi)]; exact (List.getElem?_eq_some_iff.1 hj).1
            have hil : i < rows.length := (List.getElem?_eq_some_iff.1 hi).1
            have hmul : (i + 1) * sz' ≤ rows.length * sz' := Nat.mul_le_mul_right _ hil
            rw [Nat.add_mul] at hmul
            simp only [List.getElem?_toArray, List.getElem?_take]
            rw [if_pos (by omega), Array.getElem?_toList]; exact hv
          obtain ⟨g1, g2, g3, g4⟩ := arr_moved (rows' := rows ++ xs) (cap := cap2) (w' := w') hR ho' (.inr (Nat.le_refl _)) (by rw [hlen]; exact hpos)
            (fun b o h => cell_of_heap (hg.old b (hR.inside b o h)) o) hg.new (fun b hb _ => hg.old b hb) (by rw [hg.size]; omega) hg.os hg.tape hg.output hallrow (by rw [hlen]; exact hcap2) (by omega) hlies
            (fun o ho => absurd (hR.inside _ _ ho) (Nat.lt_irrefl _))
          rw [hlen] at g1 g2 g3 g4
          exact ⟨_, _, _, .inl (by rw [run_bind hrun]; rfl), g3, g4, g1, g2⟩
  · simp at h
end
end Go.Am
/- The abstract machine: soundness of the silent operations and of the reads. -/
namespace Go.Am
section
variable {P : Program} {T : Tab} {κ : K} {w : World} {σ : St} {look : Look}
theorem field_of {t : TypeId} {f : Nat} {g : Field} (h : T.field t f = some g) : ∃ fs, T.und t = some (.struct fs) ∧ fs[f]? = some g := by
  unfold Tab.field at h
  split at h
  · rename_i fs hfs; exact ⟨fs, hfs, by simpa using h⟩
  · simp at h
theorem fieldAddr_sound (hT : T.fits P) {t : TypeId} {f : Nat} {x v : V} {y : Value} {L : Nat → Bool} (h : fieldAddr T t f x = some v) (hx : RV κ w x y) (hu : x.under L = true) :
    ∃ z, (Instr.fieldAt t y f).run P w = .ok z w ∧ RV κ w v z ∧ v.under L = true := by
  unfold fieldAddr at h
  cases hg : T.field t f with
  | none => simp [hg] at h
  | some g =>
  simp only [hg] at h
  cases hn : T.size g.type with
  | none => simp [hn] at h
  | some n =>
  cases n with
  | zero => simp [hn] at h
  | succ n =>
  simp only [hn] at h
  obtain ⟨fs, hfs, hf⟩ := field_of hg
  have hrun : ∀ b o, (Instr.fieldAt t (.pointer (some ⟨b, o, none⟩)) f).run P w = .ok (.pointer (some ⟨b, o + g.offset, none⟩)) w := by
    intro b o
    unfold Instr.fieldAt
    rw [run_bind (run_underlying hT hfs)]
    simp only [hf]
    refine (run_bind (a := (⟨b, o, none⟩ : Addr)) rfl).trans ?_
    have : (fieldPlace ⟨b, o, none⟩ g).run P w = .ok ⟨b, o + g.offset, none⟩ w := by
      unfold fieldPlace
      rw [run_bind (run_sizeOf hT hn), if_neg (by omega), addr_add]; rfl
    rw [run_bind this]; rfl
  split at h
  · rename_i id o
    injection h with h; subst h
    cases hx with | one _ _ hc => cases hc with | ptr _ _ b hb => exact ⟨_, hrun b o, .one _ _ (.ptr _ _ _ hb), hu⟩
  · injection h with h; subst h
    cases hx with | one _ _ hc => cases hc with | rptr _ b o hd =>
    refine ⟨_, hrun b o, .one _ _ (.rptr _ _ _ fun j d hj => ?_), rfl⟩
    have := hd (g.offset + j) d (by simpa using hj)
    rw [← Nat.add_assoc] at this; exact this
  · rename_i id ep len sz idx o
    injection h with h; subst h
    cases hx with | one _ _ hc => cases hc with | eptr _ _ _ _ _ _ b cap hs =>
    refine ⟨_, hrun b _, ?_, hu⟩
    rw [Nat.add_assoc]; exact .one _ _ (.eptr _ _ _ _ _ _ _ cap hs)
  · simp at h
theorem run_part (hT : T.fits P) {t n : Nat} {g : Bool} (hn : T.size t = some n) (hg : T.agg t = some g) {cs : Array Value} {off : Nat} (hle : off + n ≤ cs.size) (h1 : g = false → n = 1) :
    (part t cs off).run P w = .ok (ofMk g ((cs.toList.drop off).take n)) w := by
  unfold part
  rw [run_bind (run_isAgg hT hg)]
  cases g with
  | true =>
    simp only [if_true]
    rw [run_bind (run_sizeOf hT hn)]
    simp only [ofMk, if_true]
    have : cs.extract off (off + n) = ((cs.toList.drop off).take n).toArray := by
      apply Array.ext'
      simp only [Array.toList_extract, List.extract_eq_take_drop]
      congr 1; omega
    rw [this]; rfl
  | false =>
    have := h1 rfl; subst this
    simp only [Bool.false_eq_true, if_false]
    have hlt : off < cs.size := by omega
    simp only [Array.getElem?_eq_getElem hlt]
    have : (cs.toList.drop off).take 1 = [cs[off]] := by
      rw [List.drop_eq_getElem_cons (by simpa using hlt)]; simp
    rw [this]; rfl
theorem fieldOf_sound (hT : T.fits P) {t : TypeId} {f : Nat} {x v : V} {y : Value} {L : Nat → Bool} (h : fieldOf T t f x = some v) (hx : RV κ w x y) (hu : x.under L = true) :
    ∃ z, (Instr.field t y f).run P w = .ok z w ∧ RV κ w v z ∧ v.under L = true := by
  unfold fieldOf at h
  cases hg : T.field t f with
  | none => simp [hg] at h
  | some g =>
  simp only [hg] at h
  split at h
  · rename_i n a cs hn ha
    obtain ⟨fs, hfs, hf⟩ := field_of hg
    cases hle : Nat.ble (g.offset + n) cs.length with
    | false => rw [hle] at h; simp at h
    | true =>
    rw [hle] at h; simp only [cond_true] at h
    have hle' := Nat.le_of_ble_eq_true hle
    cases hx with | agg _ vs hc =>
    have hcs := (hc.drop g.offset).take n
    refine ⟨_, ?_, mk_sound h hcs, mk_under h (underAll_take _ (underAll_drop _ hu))⟩
    unfold Instr.field
    rw [run_bind (run_underlying hT hfs)]
    simp only [hf]
    refine (run_bind (a := vs) rfl).trans ?_
    refine run_part hT hn ha ?_ ?_
    · have := hc.1; simp at this; omega
    · intro hf; subst hf
      have := mk_false h; simp at this; omega
  · simp at h
theorem run_asIntOf (k : IntKind) (i : Int) : (asIntOf (.int k i)).run P w = .ok (k, i) w := rfl
theorem indexAddr_sound [HasGlob] (hT : T.fits P) (hR : RS κ w σ) (hl : Sees σ look) {t : TypeId} {x v : V} {y : Value} {k : IntKind} {i : Int} (h : indexAddr T t x i look = some v)
    (hx : RV κ w x y) (hu : x.under (alive σ) = true) : ∃ z, (Instr.indexAt t y (.int k i)).run P w = .ok z w ∧ RV κ w v z ∧ v.under (alive σ) = true := by
  unfold indexAddr at h
  split at h
  · rename_i e he
    cases hn : T.size e with
    | none => simp [hn] at h
    | some n =>
    simp only [hn] at h
    cases hi : decide (0 ≤ i) with
    | false => rw [hi] at h; simp at h
    | true =>
    rw [hi] at h; simp only [cond_true] at h
    have hi' : 0 ≤ i := of_decide_eq_true hi
    have hrun : ∀ b o len cap, i < (len : Nat) → (Instr.indexAt t (.slice (some ⟨b, o, none⟩) len cap) (.int k i)).run P w = .ok (.pointer (some ⟨b, o + i.toNat * n, none⟩)) w := by
      intro b o len cap hlt
      unfold Instr.indexAt
      rw [run_bind (run_asIntOf k i)]
      simp only
      rw [run_bind (run_underlying hT he)]
      simp only
      refine (run_bind (a := (some (⟨b, o, none⟩ : Addr), len, e)) rfl).trans ?_
      simp only
      rw [run_bind (run_underlying hT he)]
      simp only
      rw [if_pos ⟨hi', hlt⟩, run_bind (run_sizeOf hT hn), addr_add]; rfl
    split at h
    · rename_i rows
      cases hrow : rows[i.toNat]? with
      | none => simp [hrow] at h
      | some row =>
      simp only [hrow] at h
      cases hrl : Nat.beq row.length n with
      | false => rw [hrl] at h; simp at h
      | true =>
      rw [hrl] at h; simp only [cond_true, Option.some.injEq] at h; subst h
      have hrl' : row.length = n := by simpa using hrl
      have hlt : i.toNat < rows.length := (List.getElem?_eq_some_iff.1 hrow).1
      cases hx with | one _ _ hc => cases hc with | d _ _ hd =>
      cases hd with
      | nil a cap => simp at hlt
      | list b off cap sz _ vs hcap hr hcell hrel =>
        have hsz : sz = n := by rw [← hr _ row hrow, hrl']
        subst hsz
        refine ⟨_, hrun b off _ cap (by omega), .one _ _ (.rptr _ _ _ fun j d hj => ?_), rfl⟩
        obtain ⟨h1, h2⟩ := hcell i.toNat j row d hrow hj
        rw [Nat.add_assoc]
        exact ⟨h1, _, h2, hrel i.toNat j row d hrow hj⟩
    · rename_i id ep len
      cases ho : look id with
      | none => simp [ho] at h
      | some o =>
      cases o <;> simp only [ho] at h <;> try simp at h
      rename_i ep' m sz rows
      cases hc1 : (Nat.beq ep ep' && Nat.beq len rows.length) && Nat.beq sz n with
      | false => rw [hc1] at h; simp at h
      | true =>
      rw [hc1] at h; simp only [cond_true] at h
      simp only [Bool.and_eq_true, Nat.beq_eq] at hc1
      obtain ⟨⟨rfl, rfl⟩, rfl⟩ := hc1
      cases hrow : rows[i.toNat]? with
      | none => simp [hrow] at h
      | some row =>
      simp only [hrow] at h
      have hlt : i.toNat < rows.length := (List.getElem?_eq_some_iff.1 hrow).1
      have ho' := hl _ _ ho
      obtain ⟨⟨hsz, _⟩, hob⟩ := hR.obj _ _ ho'
      cases hx with | one _ _ hc => cases hc with | arr _ _ _ a cap hs =>
      rcases hob with ⟨h0, h1⟩ | ⟨b, cap', c, E, h0, hh, h1, h2, h3, h6, h7⟩
      · subst h1; simp at hlt
      have h00 := h0
      rw [hs] at h0; injection h0 with h0; injection h0 with h0 _ h0'; subst h0; subst h0'
      cases m with
      | true =>
        simp only [cond_true, Option.some.injEq] at h; subst h
        refine ⟨_, hrun b 0 _ cap (by omega), ?_, hu⟩
        rw [Nat.zero_add]
        exact .one _ _ (by simpa using RC.eptr (κ := κ) (w := w) id ep rows.length sz i.toNat 0 b cap h00)
      | false =>
        simp only [cond_false, Option.some.injEq] at h; subst h
        refine ⟨_, hrun b 0 _ cap (by omega), .one _ _ (.rptr _ _ _ fun j d hj => ?_), rfl⟩
        obtain ⟨v, hv, hd⟩ := h3 i.toNat j row d hrow hj
        have hjl : j < sz := by rw [← hsz row (List.mem_of_getElem? hrow)]; exact (List.getElem?_eq_some_iff.1 hj).1
        have hmul : (i.toNat + 1) * sz ≤ rows.length * sz := Nat.mul_le_mul_right _ hlt
        rw [Nat.add_mul] at hmul
        rw [Nat.zero_add]
        exact ⟨(h7 rfl _).2 (by omega), v, by rw [cells_of_block hh]; exact hv, hd⟩
    · simp at h
  · rename_i cnt e he
    cases hn : T.size e with
    | none => simp [hn] at h
    | some n =>
    simp only [hn] at h
    cases hi : decide (0 ≤ i) && decide (i < cnt) with
    | false => rw [hi] at h; simp at h
    | true =>
    rw [hi] at h; simp only [cond_true] at h
    simp only [Bool.and_eq_true, decide_eq_true_eq] at hi
    have hrun : ∀ b o, (Instr.indexAt t (.pointer (some ⟨b, o, none⟩)) (.int k i)).run P w = .ok (.pointer (some ⟨b, o + i.toNat * n, none⟩)) w := by
      intro b o
      unfold Instr.indexAt
      rw [run_bind (run_asIntOf k i)]
      simp only
      rw [run_bind (run_underlying hT he)]
      simp only
      refine (run_bind (a := (some (⟨b, o, none⟩ : Addr), cnt, e)) rfl).trans ?_
      simp only
      rw [run_bind (run_underlying hT he)]
      simp only
      rw [if_pos hi, run_bind (run_sizeOf hT hn), addr_add]; rfl
    split at h
    · rename_i id o
      injection h with h; subst h
      cases hx with | one _ _ hc => cases hc with | ptr _ _ b hb => exact ⟨_, hrun b o, .one _ _ (.ptr _ _ _ hb), hu⟩
    · injection h with h; subst h
      cases hx with | one _ _ hc => cases hc with | rptr _ b o hd =>
      refine ⟨_, hrun b o, .one _ _ (.rptr _ _ _ fun j d hj => ?_), rfl⟩
      have := hd (i.toNat * n + j) d (by simpa using hj)
      rw [← Nat.add_assoc] at this; exact this
    · rename_i id ep len sz idx o
      injection h with h; subst h
      cases hx with | one _ _ hc => cases hc with | eptr _ _ _ _ _ _ b cap hs =>
      refine ⟨_, hrun b _, ?_, hu⟩
      rw [Nat.add_assoc]; exact .one _ _ (.eptr _ _ _ _ _ _ _ cap hs)
    · simp at h
  · simp at h
theorem indexOf_sound (hT : T.fits P) {t : TypeId} {x v : V} {y : Value} {k : IntKind} {i : Int} {L : Nat → Bool} (h : indexOf T t x i = some v) (hx : RV κ w x y) (hu : x.under L = true) :
    ∃ z, (Instr.index t y (.int k i)).run P w = .ok z w ∧ RV κ w v z ∧ v.under L = true := by
  unfold indexOf at h
  split at h
  · rename_i cnt e he
    split at h
    · rename_i n a cs hn ha
      cases hle : (decide (0 ≤ i) && decide (i < cnt)) && Nat.ble (i.toNat * n + n) cs.length with
      | false => rw [hle] at h; simp at h
      | true =>
      rw [hle] at h; simp only [cond_true] at h
      simp only [Bool.and_eq_true, decide_eq_true_eq] at hle
      have hle' := Nat.le_of_ble_eq_true hle.2
      cases hx with | agg _ vs hc =>
      have hcs := (hc.drop (i.toNat * n)).take n
      refine ⟨_, ?_, mk_sound h hcs, mk_under h (underAll_take _ (underAll_drop _ hu))⟩
      unfold Instr.index
      rw [run_bind (run_asIntOf k i)]
      simp only
      rw [run_bind (run_underlying hT he)]
      simp only
      rw [if_pos hle.1, run_bind (run_sizeOf hT hn)]
      refine run_part hT hn ha ?_ ?_
      · have := hc.1; simp at this; omega
      · intro hf; subst hf
        have := mk_false h; simp at this; omega
    · simp at h
  · rename_i he
    split at h
    · rename_i s
      cases hi : decide (0 ≤ i) with
      | false => rw [hi] at h; simp at h
      | true =>
      rw [hi] at h; simp only [cond_true] at h
      have hi' : 0 ≤ i := of_decide_eq_true hi
      cases hb : s.data.toList[i.toNat]? with
      | none => simp [hb] at h
      | some b =>
      simp only [hb, Option.some.injEq] at h; subst h
      cases hx with | one _ _ hc => cases hc with | d _ _ hd => cases hd with | sc _ _ =>
      refine ⟨.int .u8 b.toNat, ?_, .one _ _ (.d _ _ (.sc _ rfl)), rfl⟩
      unfold Instr.index
      rw [run_bind (run_asIntOf k i)]
      simp only
      rw [run_bind (run_underlying hT he)]
      simp only
      rw [if_pos hi']
      have : s[i.toNat]? = some b := by
        obtain ⟨h1, h2⟩ := List.getElem?_eq_some_iff.1 hb
        have h1' : i.toNat < s.size := by simpa using h1
        rw [getElem?_pos s i.toNat h1']
        have : s[i.toNat] = s.data.toList[i.toNat] := by simp; rfl
        rw [this, h2]
      rw [this]; rfl
    · simp at h
  · simp at h
end
end Go.Am
/- The abstract machine: soundness of slicing, of what is built, and of interfaces. -/
namespace Go.Am
section
variable {P : Program} {T : Tab} {κ : K} {w : World} {σ : St} {look : Look}
/-! slices -/
/-- a bound as the model finds it -/
def isBound (b : Option Int) (v : Option Value) : Prop := match b, v with
  | none, none => True
  | some n, some (.int _ m) => n = m
  | _, _ => False
theorem run_sliceBounds {isSlice : Bool} {len cap : Nat} {lo hi : Option Int} {low high : Option Value} (hlo : isBound lo low) (hhi : isBound hi high) (hlc : len ≤ cap)
    (h0 : 0 ≤ lo.getD 0) (h1 : lo.getD 0 ≤ hi.getD len) (h2 : hi.getD len ≤ cap) :
    (Instr.sliceBounds isSlice len cap low high none).run P w = .ok ((lo.getD 0).toNat, (hi.getD len).toNat, cap) w := by
  have hb : ∀ (k : IntKind) (n : Int) (m : Nat) (c : BoundsCode), 0 ≤ n → n ≤ m → (Instr.sliceBound (.int k n) m c).run P w = .ok n.toNat w := by
    intro k n m c hn hm
    unfold Instr.sliceBound
    rw [run_bind (run_asIntOf k n)]
    simp only
    rw [if_pos ⟨hn, hm⟩]; rfl
  cases low with
  | none =>
    cases lo with
    | some _ => simp [isBound] at hlo
    | none =>
    cases high with
    | none =>
      cases hi with
      | some _ => simp [isBound] at hhi
      | none => rfl
    | some v =>
      cases hi with
      | none => simp [isBound] at hhi
      | some n =>
        cases v <;> simp only [isBound] at hhi
        subst hhi
        simp only [Option.getD_some, Option.getD_none] at h0 h1 h2 ⊢
        unfold Instr.sliceBounds
        refine (run_bind (a := cap) (w' := w) rfl).trans ?_
        refine (run_bind (hb _ _ _ _ (by omega) h2)).trans ?_
        rfl
  | some u =>
    cases lo with
    | none => simp [isBound] at hlo
    | some p =>
    cases u <;> simp only [isBound] at hlo
    subst hlo
    cases high with
    | none =>
      cases hi with
      | some _ => simp [isBound] at hhi
      | none =>
        simp only [Option.getD_some, Option.getD_none] at h0 h1 h2 ⊢
        unfold Instr.sliceBounds
        refine (run_bind (a := cap) (w' := w) rfl).trans ?_
        refine (run_bind (a := len) (w' := w) rfl).trans ?_
        refine (run_bind (hb _ _ _ _ h0 h1)).trans ?_
        rfl
    | some v =>
      cases hi with
      | none => simp [isBound] at hhi
      | some n =>
        cases v <;> simp only [isBound] at hhi
        subst hhi
        simp only [Option.getD_some] at h0 h1 h2 ⊢
        unfold Instr.sliceBounds
        refine (run_bind (a := cap) (w' := w) rfl).trans ?_
        refine (run_bind (hb _ _ _ _ (by omega) h2)).trans ?_
        refine (run_bind (hb _ _ _ _ h0 (by omega))).trans ?_
        rfl
theorem elem_und {t e : TypeId} (h1 : T.elem t = some e) : T.und t = some (.slice e) := by
  unfold Tab.elem at h1
  split at h1
  · rename_i e' he; injection h1 with h1; subst h1; exact he
  · simp at h1
theorem run_sliceAt_slice (hT : T.fits P) {t e n : Nat} (he : T.elem t = some e) (hn : T.size e = some n) {a : Option Addr} {len cap : Nat} {lo hi : Option Int} {low high : Option Value}
    (hlo : isBound lo low) (hhi : isBound hi high) (hlc : len ≤ cap)
    (h0 : 0 ≤ lo.getD 0) (h1 : lo.getD 0 ≤ hi.getD len) (h2 : hi.getD len ≤ cap) :
    (Instr.sliceAt t (.slice a len cap) low high none).run P w =
      .ok (.slice (if cap = (lo.getD 0).toNat then a else a.map (·.add ((lo.getD 0).toNat * n))) ((hi.getD len).toNat - (lo.getD 0).toNat) (cap - (lo.getD 0).toNat)) w := by
  have hund := elem_und he
  unfold Instr.sliceAt
  rw [run_bind (run_underlying hT hund)]
  simp only
  unfold Instr.slice
  rw [run_bind (run_underlying hT hund)]
  simp only
  rw [run_bind (run_sliceBounds hlo hhi hlc h0 h1 h2)]
  simp only
  rw [run_bind (run_sizeOf hT hn)]; rfl
/-- a part of a list is a list -/
theorem RD.part {S : Nat → Nat → Prop} {rows : List (List D)} {a : Option Addr} {len cap n : Nat} (h : RD S w (.list rows) (.slice a len cap)) (hok : rowsOk n rows = true) {l q : Nat} (h1 : l ≤ q) (h2 : q ≤ rows.length) :
    RD S w (.list ((rows.take q).drop l)) (.slice (if cap = l then a else a.map (·.add (l * n))) (q - l) (cap - l)) := by
  have hlen : ((rows.take q).drop l).length = q - l := by simp; omega
  by_cases hz : (rows.take q).drop l = []
  · rw [hz]
    rw [hz] at hlen; simp at hlen
    rw [show q - l = 0 from by omega]; exact .nil _ _
  · have hne : rows ≠ [] := by intro e; subst e; simp at hz
    cases h with
    | nil a cap => exact absurd rfl hne
    | list b off cap sz _ vs hcap hr hcell hrel =>
      have hpos : l < q := by
        rcases Nat.lt_or_ge l q with h | h
        · exact h
        · exact absurd (List.length_eq_zero_iff.1 (by omega)) hz
      have hsz : sz = n := by
        cases hrows : rows with
        | nil => exact absurd hrows hne
        | cons r0 rs =>
          have := hr 0 r0 (by rw [hrows]; rfl)
          rw [← this]; exact rowsOk_spec hok r0 (by rw [hrows]; simp)
      subst hsz
      rw [if_neg (by omega)]
      simp only [Option.map_some, addr_add]
      rw [← hlen]
      have hget : ∀ i row, ((rows.take q).drop l)[i]? = some row → rows[l + i]? = some row := by
        intro i row hi
        rw [List.getElem?_drop, List.getElem?_take] at hi
        split at hi
        · exact hi
        · simp at hi
      refine .list b (off + l * sz) (cap - l) sz _ (fun i j => vs (l + i) j) (by omega) (fun i row hi => hr _ row (hget i row hi)) (fun i j row d hi hj => ?_) (fun i j row d hi hj => hrel _ j row d (hget i row hi) hj)
      have := hcell (l + i) j row d (hget i row hi) hj
      rw [Nat.add_mul, Nat.add_assoc, ← Nat.add_assoc off] at this
      exact this
theorem slice_sound [HasGlob] (hT : T.fits P) (hR : RS κ w σ) (hl : Sees σ look) {t : TypeId} {x v : V} {u : Upd} {y : Value} {lo hi : Option Int} {low high : Option Value} {cut : Option Bool}
    (h : sliceOf T t x lo hi cut look = some (v, u)) (hx : RV κ w x y) (hu : x.under (alive σ) = true) (hlo : isBound lo low) (hhi : isBound hi high) :
    OpOk κ w σ ((do pure (Next.value (← Instr.sliceAt t y low high none)) : Sem Next).run P w) v u := by
  unfold sliceOf at h
  simp only at h
  split at h
  · rename_i s
    split at h
    case h_2 => simp at h
    rename_i hund
    cases hc : decide (0 ≤ lo.getD 0) && decide (lo.getD 0 ≤ hi.getD s.size) && decide (hi.getD s.size ≤ s.size) with
    | false => rw [hc] at h; simp at h
    | true =>
    rw [hc] at h; simp only [cond_true, Option.some.injEq, Prod.mk.injEq] at h; obtain ⟨rfl, rfl⟩ := h
    simp only [Bool.and_eq_true, decide_eq_true_eq] at hc
    cases hx with | one _ _ hc' => cases hc' with | d _ _ hd => cases hd with | sc _ _ =>
    have hrun : (Instr.sliceAt t (.string s) low high none).run P w = .ok (.string (s.extract (lo.getD 0).toNat (hi.getD s.size).toNat)) w := by
      unfold Instr.sliceAt
      rw [run_bind (run_underlying hT hund)]
      simp only
      unfold Instr.slice
      rw [run_bind (run_underlying hT hund)]
      simp only [Option.isSome_none, Bool.false_eq_true, if_false]
      rw [run_bind (run_sliceBounds hlo hhi (Nat.le_refl _) hc.1.1 hc.1.2 hc.2)]; rfl
    exact .quiet hR (by rw [run_bind hrun]; rfl) (.one _ _ (.d _ _ (.sc _ rfl))) rfl
  · cases he : T.elem t with
    | none => simp [he] at h
    | some e =>
    cases hn : T.size e with
    | none => simp [he, hn] at h
    | some n =>
    simp only [he, hn] at h
    cases hc : decide (lo.getD 0 = 0) && decide (hi.getD 0 = 0) with
    | false => rw [hc] at h; simp at h
    | true =>
    rw [hc] at h; simp only [cond_true, Option.some.injEq, Prod.mk.injEq] at h; obtain ⟨rfl, rfl⟩ := h
    simp only [Bool.and_eq_true, decide_eq_true_eq] at hc
    cases hx with | one _ _ hc' => cases hc' with | d _ _ hd => cases hd with | sc _ _ =>
    have hrun := run_sliceAt_slice (P := P) (w := w) hT he hn (a := none) (len := 0) (cap := 0) hlo hhi (Nat.le_refl _) (by omega) (by simp only [Int.ofNat_zero, Int.natCast_zero]; omega) (by simp only [Int.natCast_zero]; omega)
    simp only [hc.1, Int.natCast_zero, hc.2, Int.toNat_zero, Nat.sub_self, if_true] at hrun
    exact .quiet hR (by rw [run_bind hrun]; rfl) (.one _ _ (.d _ _ (.sc _ rfl))) rfl
  · rename_i rows
    cases he : T.elem t with
    | none => simp [he] at h
    | some e =>
    cases hn : T.size e with
    | none => simp [he, hn] at h
    | some n =>
    simp only [he, hn] at h
    cases hc : (decide (0 ≤ lo.getD 0) && decide (lo.getD 0 ≤ hi.getD rows.length) && decide (hi.getD rows.length ≤ rows.length)) && rowsOk n rows with
    | false => rw [hc] at h; simp at h
    | true =>
    rw [hc] at h; simp only [cond_true, Option.some.injEq, Prod.mk.injEq] at h; obtain ⟨rfl, rfl⟩ := h
    simp only [Bool.and_eq_true, decide_eq_true_eq] at hc
    obtain ⟨⟨⟨h0, h1⟩, h2⟩, hok⟩ := hc
    cases hx with | one _ _ hc' => cases hc' with | d _ _ hd =>
    have hslice : ∃ a cap, y = .slice a rows.length cap ∧ rows.length ≤ cap := by
      cases hd with
      | nil a cap => exact ⟨a, cap, rfl, by simp⟩
      | list b off cap sz _ vs hcap _ _ _ => exact ⟨_, cap, rfl, hcap⟩
    obtain ⟨a, cap, rfl, hcap⟩ := hslice
    have hrun := run_sliceAt_slice (P := P) (w := w) hT he hn (a := a) hlo hhi hcap h0 h1 (by omega)
    exact .quiet hR (by rw [run_bind hrun]; rfl) (.one _ _ (.d _ _ (hd.part hok (by omega) (by omega)))) rfl
  · rename_i id ep len
    cases ho : look id with
    | none => simp [ho] at h
    | some o =>
    cases o <;> simp only [ho] at h <;> try simp at h
    rename_i ep' m sz rows
    cases he : T.elem t with
    | none => simp [he] at h
    | some e =>
    cases hn : T.size e with
    | none => simp [he, hn] at h
    | some n =>
    simp only [he, hn] at h
    cases hc : (Nat.beq ep ep' && Nat.beq len rows.length) && (decide (0 ≤ lo.getD 0) && decide (lo.getD 0 ≤ hi.getD rows.length) && decide (hi.getD rows.length ≤ rows.length)) && Nat.beq sz n with
    | false => rw [hc] at h; simp at h
    | true =>
    rw [hc] at h; simp only [cond_true] at h
    simp only [Bool.and_eq_true, decide_eq_true_eq, Nat.beq_eq] at hc
    obtain ⟨⟨⟨rfl, rfl⟩, ⟨h0, h1⟩, h2⟩, rfl⟩ := hc
    cases hx with | one _ _ hc' => cases hc' with | arr _ _ _ a cap hs =>
    have ho' := hl _ _ ho
    obtain ⟨⟨hrows, hfr⟩, hob⟩ := hR.obj _ _ ho'
    have hcap : rows.length ≤ cap := by
      rcases hob with ⟨g1, g2⟩ | ⟨b, cap', c, E, g1, _, g3, _⟩
      · subst g2; simp
      · rw [hs] at g1; injection g1 with g1; injection g1 with _ _ g1; omega
    have hrun := run_sliceAt_slice (P := P) (w := w) hT he hn (a := a) hlo hhi hcap h0 h1 (by omega)
    cases cut with
    | none =>
      cases m with
      | true => simp at h
      | false =>
      simp only [cond_false, Option.some.injEq, Prod.mk.injEq] at h; obtain ⟨rfl, rfl⟩ := h
      have hrd := rows_sound (w := w) hR hl (id := id) (ep := ep) (len := rows.length) (rows := rows) (by simp [rowsOf, ho]) hs
      have hok : rowsOk sz rows = true := by
        simp only [rowsOk, List.all_eq_true]; intro r hr; simp [hrows r hr]
      exact .quiet hR (by rw [run_bind hrun]; rfl) (.one _ _ (.d _ _ (hrd.part hok (by omega) (by omega)))) rfl
    | some cm =>
      simp only at h
      cases hc2 : decide (lo.getD 0 = 0) && m with
      | false => rw [hc2] at h; simp at h
      | true =>
      rw [hc2] at h; simp only [cond_true, Option.some.injEq, Prod.mk.injEq] at h; obtain ⟨rfl, rfl⟩ := h
      simp only [Bool.and_eq_true, decide_eq_true_eq] at hc2
      obtain ⟨hl0, rfl⟩ := hc2
      generalize hq : (hi.getD rows.length).toNat = q at *
      have hqle : q ≤ rows.length := by omega
      simp only [hl0, Int.toNat_zero, Nat.sub_zero, Nat.zero_mul] at hrun
      have hadd : (if cap = 0 then a else a.map (·.add 0)) = a := by
        split
        · rfl
        · cases a with
          | none => rfl
          | some a => simp [Addr.add]
      rw [hadd] at hrun
      have htl : (rows.take q).length = q := by simp; omega
      have hlid : id < σ.length := (List.getElem?_eq_some_iff.1 ho').1
      let κ' := κ.arrMore id (ep + 1) q (.slice a q cap) κ.S
      have hsl : κ'.sl id (ep + 1) (rows.take q).length = some (.slice a q cap) := by simp [κ', K.arrMore, htl]
      have hslold : ∀ i e l v, alive σ i = true → κ.sl i e l = some v → κ'.sl i e l = some v := by
        intro i e l v hi hv
        simp only [κ', K.arrMore]
        split
        · rename_i hx; obtain ⟨rfl, rfl, rfl⟩ := hx
          rcases hfr _ _ _ hv with h | ⟨h, _⟩ <;> omega
        · exact hv
      have hfresh : ∀ ep' l v, κ'.sl id ep' l = some v → ep' < ep + 1 ∨ ep' = ep + 1 ∧ l ≤ (rows.take q).length := by
        intro ep' l v hv
        simp only [κ', K.arrMore] at hv
        split at hv
        · rename_i hx; exact .inr ⟨hx.2.1, by rw [hx.2.2, htl]; exact Nat.le_refl _⟩
        · rcases hfr _ _ _ hv with h | ⟨h, _⟩
          · exact .inl (by omega)
          · exact .inl (by omega)
      rcases hob with ⟨g1, g2⟩ | ⟨b, cap', c, E, g1, g2, g3, g4, g5, g6, g7⟩
      · subst g2
        rw [hs] at g1; injection g1 with g1; injection g1 with g1 _ g1'; subst g1; subst g1'
        simp at hqle; subst hqle
        have hup := RS.update (κ' := κ') (w' := w) (o1 := .arr (ep + 1) true sz ([].take 0)) (B := w.heap.size) hR ho' (.inr (Nat.le_refl _)) (fun _ _ h => h) (fun _ _ _ => rfl) (fun _ _ => rfl) hslold
          (fun i hi _ e l => by simp [κ', K.arrMore, hi]) (fun _ _ h => .inl h) (fun _ _ _ => rfl) (Nat.le_refl _) (fun o ho => hR.inside _ _ ho) rfl rfl rfl (by simp)
          ⟨⟨fun r hr => by simp at hr, hfresh⟩, .inl ⟨hsl, rfl⟩⟩ (fun b hb => by simp only [blockOf, hsl] at hb; simp at hb) rfl
        refine ⟨_, w, κ', .inl (by rw [run_bind hrun]; rfl), .one _ _ (.arr _ _ _ _ _ ?_), ?_, hup.1, hup.2⟩
        · simpa using hsl
        · exact alive_iff.2 ⟨_, List.getElem?_set_self hlid, by simp⟩
      · have g1' := g1
        rw [hs] at g1; injection g1 with g1; injection g1 with g1 _ g1''; subst g1; subst g1''
        have hblk : blockOf κ id (.arr ep true sz rows) = some b := by simp [blockOf, g1']
        have hup := RS.update (κ' := κ') (w' := w) (o1 := .arr (ep + 1) true sz (rows.take q)) (B := b) hR ho' (.inl hblk) (fun _ _ h => h) (fun _ _ _ => rfl) (fun _ _ => rfl) hslold
          (fun i hi _ e l => by simp [κ', K.arrMore, hi]) (fun _ _ h => .inl h) (fun _ _ _ => rfl) (Nat.le_refl _) (fun o ho => hR.inside _ _ ho) rfl rfl rfl (by simp)
          ⟨⟨fun r hr => hrows r (List.mem_of_mem_take hr), hfresh⟩, .inr ⟨b, cap, c, E, by rw [hsl, htl], g2, by omega, g4, fun i j row d hi hj => g5 i j row d (by rw [List.getElem?_take] at hi; split at hi <;> simp_all) hj, g6, fun h => by simp at h⟩⟩
          (fun b hb => by simp only [blockOf, hsl, Option.some.injEq] at hb; exact hb.symm) rfl
        refine ⟨_, w, κ', .inl (by rw [run_bind hrun]; rfl), .one _ _ (.arr _ _ _ _ _ ?_), ?_, hup.1, hup.2⟩
        · rw [htl] at hsl; exact hsl
        · exact alive_iff.2 ⟨_, List.getElem?_set_self hlid, by simp⟩
  · simp at h
end
end Go.Am
