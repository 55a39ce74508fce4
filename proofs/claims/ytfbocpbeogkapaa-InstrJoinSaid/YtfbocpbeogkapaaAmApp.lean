/- The abstract machine: append. -/
import Derived.Test.YtfbocpbeogkapaaAmNew
set_option linter.unusedVariables false
set_option linter.unusedSimpArgs false
namespace Go.Am

theorem nextslicecap_le {need old : Nat} (h : old < need) : Builtin.nextslicecap need old ≤ 2 * need := by
  have hg : ∀ (r c : Nat), 256 ≤ need → c ≤ 2 * need → (c ≥ need ∨ c < need) → Builtin.growBy need r c ≤ 2 * need := by
    intro r
    induction r with
    | zero => intro c _ h _; simpa [Builtin.growBy] using h
    | succ r ih =>
      intro c h0 h1 _
      simp only [Builtin.growBy]
      split
      · exact h1
      · refine ih _ h0 ?_ (by omega)
        omega
  unfold Builtin.nextslicecap
  split
  · omega
  · split
    · omega
    · exact hg 4 old (by omega) (by omega) (by omega)

section
variable {P : Program} {T : Tab} {κ : K} {w : World} {σ : St} {look : Look}

theorem vals_of (b off : Nat) : ∀ n, (∀ k, k < n → ∃ v, cellAt w b (off + k) = some v ∧ plain v = true) →
    ∃ vals : List Value, vals.length = n ∧ (∀ (j : Nat) (v : Value), vals[j]? = some v → cellAt w b (off + j) = some v) ∧ allPlain vals = true
  | 0, _ => ⟨[], rfl, fun j v h => by simp at h, rfl⟩
  | n + 1, h => by
    obtain ⟨vals, h1, h2, h3⟩ := vals_of b off n fun k hk => h k (by omega)
    obtain ⟨v, hv, hp⟩ := h n (by omega)
    refine ⟨vals ++ [v], by simp [h1], fun j u hj => ?_, ?_⟩
    · rw [List.getElem?_append] at hj
      split at hj
      · exact h2 j u hj
      · have : j = n := by
          by_cases he : j - vals.length = 0
          · omega
          · obtain ⟨q, hq⟩ : ∃ q, j - vals.length = q + 1 := ⟨j - vals.length - 1, by omega⟩
            rw [hq] at hj; simp at hj
        subst this; rw [h1] at hj; simp at hj; subst hj; exact hv
    · clear h1 h2
      induction vals with
      | nil => simp [Am.allPlain, hp]
      | cons x r ih => simp only [Am.allPlain, Bool.and_eq_true, List.cons_append] at h3 ⊢; exact ⟨h3.1, ih h3.2⟩

/-- what is appended, as the model finds it -/
structure Src (P : Program) (κ : K) (w : World) (y : Value) (xs : List (List D)) (sz : Nat) (vals : List Value) : Prop where
  len : ∀ w', (Builtin.lenOf y).run P w' = .ok xs.length w'
  cells : ∀ w', w'.heap = w.heap → (Builtin.firstCells sz xs.length y).run P w' = .ok vals.toArray w'
  size : vals.length = xs.length * sz
  plain : allPlain vals = true
  lies : Lies κ.S w xs sz vals.toArray
  rows : ∀ r ∈ xs, r.length = sz

theorem rowsOk_spec {sz : Nat} {rows : List (List D)} (h : rowsOk sz rows = true) : ∀ r ∈ rows, r.length = sz := by
  intro r hr
  simp only [rowsOk, List.all_eq_true] at h
  simpa using h r hr

theorem Src.nil (sz : Nat) (a : Option Addr) (cap : Nat) : Src P κ w (.slice a 0 cap) [] sz [] where
  len _ := rfl
  cells w' _ := by
    cases a with
    | none => rfl
    | some a => simp only [List.length_nil, Builtin.firstCells, Nat.zero_mul]; rfl
  size := by simp
  plain := rfl
  lies i j row d h := by simp at h
  rows r h := by simp at h

theorem cellAt_heap {w w' : World} (h : w'.heap = w.heap) (b o : Nat) : cellAt w' b o = cellAt w b o := by simp [cellAt, World.cell?, h]

theorem Src.row {b off cap sz : Nat} {xs : List (List D)} (hrow : ∀ r ∈ xs, r.length = sz)
    (h : ∀ (i j : Nat) (row : List D) (d : D), xs[i]? = some row → row[j]? = some d → ∃ v, cellAt w b (off + (i * sz + j)) = some v ∧ RD κ.S w d v) :
    ∃ vals, Src P κ w (.slice (some ⟨b, off, none⟩) xs.length cap) xs sz vals := by
  have hk : ∀ k, k < xs.length * sz → ∃ v, cellAt w b (off + k) = some v ∧ Am.plain v = true := by
    intro k hk
    have hsz : 0 < sz := by
      rcases Nat.eq_zero_or_pos sz with h | h
      · subst h; simp at hk
      · exact h
    have hi : k / sz < xs.length := by rw [Nat.div_lt_iff_lt_mul hsz]; exact hk
    have hj : k % sz < (xs[k / sz]).length := by rw [hrow _ (List.getElem_mem hi)]; exact Nat.mod_lt _ hsz
    obtain ⟨v, hv, hd⟩ := h (k / sz) (k % sz) _ _ (List.getElem?_eq_getElem hi) (List.getElem?_eq_getElem hj)
    refine ⟨v, ?_, hd.plain⟩
    rw [← hv]; congr 1
    have := Nat.div_add_mod k sz
    rw [Nat.mul_comm] at this; omega
  obtain ⟨vals, h1, h2, h3⟩ := vals_of b off _ hk
  refine ⟨vals, fun _ => rfl, fun w' hw' => ?_, h1, h3, fun i j row d hi hj => ?_, hrow⟩
  · exact run_loadCells b off _ vals h1 fun j v hj => by rw [cellAt_heap hw']; exact h2 j v hj
  · obtain ⟨v, hv, hd⟩ := h i j row d hi hj
    have hlt : i < xs.length := (List.getElem?_eq_some_iff.1 hi).1
    have hjl : j < sz := by rw [← hrow row (List.mem_of_getElem? hi)]; exact (List.getElem?_eq_some_iff.1 hj).1
    have hmul : (i + 1) * sz ≤ xs.length * sz := Nat.mul_le_mul_right _ hlt
    rw [Nat.add_mul] at hmul
    have hin : i * sz + j < vals.length := by omega
    have := h2 (i * sz + j) _ (List.getElem?_eq_getElem hin)
    rw [hv] at this; injection this with this
    exact ⟨v, by rw [this, List.getElem?_toArray]; exact List.getElem?_eq_getElem hin, hd⟩

theorem src_of (hR : RS κ w σ) (hl : Sees σ look) {x : V} {y : Value} {xs : List (List D)} {sz : Nat} (h : rowsIn look x = some xs) (hv : RV κ w x y) (hok : rowsOk sz xs = true) :
    ∃ vals, Src P κ w y xs sz vals := by
  have hrow := rowsOk_spec hok
  unfold rowsIn at h
  split at h
  · rename_i rows
    injection h with h; subst h
    cases hv with | one _ _ hc => cases hc with | d _ _ hd =>
    cases hd with
    | nil a cap => exact ⟨[], Src.nil sz a cap⟩
    | list b off cap sz' rows vs hcap hr hc hrel =>
      cases rows with
      | nil => exact ⟨[], Src.nil sz _ cap⟩
      | cons r0 rs =>
        have : sz' = sz := by rw [← hr 0 r0 rfl, hrow r0 (by simp)]
        subst this
        exact Src.row hrow fun i j row d hi hj => ⟨_, (hc i j row d hi hj).2, hrel i j row d hi hj⟩
  · injection h with h; subst h
    cases hv with | one _ _ hc => cases hc with | d _ _ hd => cases hd with | sc _ _ => exact ⟨[], Src.nil sz none 0⟩
  · rename_i s
    injection h with h; subst h
    cases hv with | one _ _ hc => cases hc with | d _ _ hd => cases hd with | sc _ _ =>
    have hlen : (s.data.toList.map fun b => ([D.sc (.int .u8 b.toNat)] : List D)).length = s.size := by simp
    refine ⟨s.data.toList.map fun b => .int .u8 b.toNat, fun w' => ?_, fun w' _ => ?_, ?_, ?_, ?_, hrow⟩
    · rw [hlen]; rfl
    · rw [hlen]
      simp only [Builtin.firstCells]
      have : (s.extract 0 s.size).data = s.data := by
        simp [ByteArray.extract_zero_size]
      rw [this]
      show Result.ok _ _ = Result.ok _ _
      congr 1
      apply Array.ext'
      simp
    · rw [hlen]
      cases hs : s.data.toList with
      | nil => simp [show s.size = 0 from by have := congrArg List.length hs; simpa using this]
      | cons b bs =>
        have := hrow [D.sc (.int .u8 b.toNat)] (by rw [hs]; simp)
        simp at this; subst this
        rw [List.length_map, ← hs]; simp
    · clear hlen hrow hok
      induction s.data.toList with
      | nil => rfl
      | cons b bs ih => simp [Am.allPlain, Am.plain, ih]
    · intro i j row d hi hj
      simp only [List.getElem?_map, Option.map_eq_some_iff] at hi
      obtain ⟨b, hb, rfl⟩ := hi
      have hsz : sz = 1 := by
        have := hrow [D.sc (.int .u8 b.toNat)] (List.mem_map.2 ⟨b, List.mem_of_getElem? hb, rfl⟩)
        simpa using this.symm
      subst hsz
      cases j with
      | succ j => simp at hj
      | zero =>
        simp at hj; subst hj
        exact ⟨.int .u8 b.toNat, by simp [hb], .sc _ rfl⟩
  · rename_i id ep len
    unfold rowsOf at h
    cases ho : look id with
    | none => simp [ho] at h
    | some o =>
    cases o <;> simp only [ho] at h <;> try simp at h
    rename_i ep' m sz' rows'
    cases hc : (Nat.beq ep ep' && Nat.beq len rows'.length) with
    | false => rw [hc] at h; simp at h
    | true =>
    rw [hc] at h; injection h with h; subst h
    simp only [Bool.and_eq_true, Nat.beq_eq] at hc
    obtain ⟨rfl, rfl⟩ := hc
    obtain ⟨⟨h00, _⟩, h1⟩ := hR.obj _ _ (hl _ _ ho)
    cases hv with | one _ _ hc => cases hc with | arr _ _ _ a cap hs =>
    rcases h1 with ⟨h1, h2⟩ | ⟨b, cap', c, E, h1, h2, h3, h4, h5, h6, h7⟩
    · subst h2; rw [hs] at h1; injection h1 with h1; injection h1 with h1 _ h3; subst h1; subst h3
      exact ⟨[], Src.nil sz none 0⟩
    · rw [hs] at h1; injection h1 with h1; injection h1 with h1 _ h1'; subst h1; subst h1'
      cases rows' with
      | nil => exact ⟨[], Src.nil sz _ cap⟩
      | cons r0 rs =>
        have : sz' = sz := by rw [← h00 r0 (by simp), hrow r0 (by simp)]
        subst this
        refine Src.row hrow fun i j row d hi hj => ?_
        obtain ⟨v, hv, hd⟩ := h5 i j row d hi hj
        exact ⟨v, by rw [cells_of_block h2, Nat.zero_add]; exact hv, hd⟩
  · simp at h
end
end Go.Am
