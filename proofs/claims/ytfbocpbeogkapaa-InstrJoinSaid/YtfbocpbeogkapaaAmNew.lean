/- The abstract machine: new variables, new arrays, new lists. -/
import Derived.Test.YtfbocpbeogkapaaAmWr
set_option linter.unusedVariables false
set_option linter.unusedSimpArgs false
namespace Go.Am

/-- one block more; nothing else has turned -/
structure Grew (w w' : World) (o : Obj) : Prop where
  new : w'.heap[w.heap.size]? = some o
  size : w'.heap.size = w.heap.size + 1
  old : ∀ b, b < w.heap.size → w'.heap[b]? = w.heap[b]?
  os : w'.os = w.os
  tape : w'.tape = w.tape
  output : w'.output = w.output
theorem Grew.alloc (w : World) (o : Obj) : Grew w (alloc w o) o := ⟨alloc_new w o, alloc_size w o, fun _ h => alloc_old h, rfl, rfl, rfl⟩

section
variable {κ : K} {w w' : World} {σ : St} {nid : Nat}

theorem not_alive_dead (hn : σ[nid]? = some .dead) {i : Nat} (h : alive σ i = true) : i ≠ nid := by
  intro e; subst e; simp [alive, hn] at h
theorem alive_new (hn : σ[nid]? = some .dead) {o : Ob} (ho : o ≠ .dead) : alive (σ.set nid o) nid = true := by
  have : nid < σ.length := (List.getElem?_eq_some_iff.1 hn).1
  exact alive_iff.2 ⟨o, by simp [this], ho⟩

/-- a variable, a map -/
def K.atNew (κ : K) (id b : Nat) : K := { κ with at_ := fun i => if i = id then some b else κ.at_ i }

theorem ob_made (hR : RS κ w σ) (hn : σ[nid]? = some .dead) {o : Obj} {o1 : Ob} (hg : Grew w w' o) (hne : o1 ≠ .dead)
    (h1 : Stays κ w (κ.atNew nid w.heap.size) w' (alive σ) → RO (κ.atNew nid w.heap.size) w' nid o1) (hb : ∀ b, blockOf (κ.atNew nid w.heap.size) nid o1 = some b → b = w.heap.size)
    (hu : o1.under (alive (σ.set nid o1)) = true) :
    Evo κ w σ (κ.atNew nid w.heap.size) w' (σ.set nid o1) ∧ RS (κ.atNew nid w.heap.size) w' (σ.set nid o1) := by
  have hK : ∀ b o, κ.S b o → cellAt w' b o = cellAt w b o := fun b o h => cell_of_heap (hg.old b (hR.inside b o h)) o
  have hat : ∀ i, alive σ i = true → (κ.atNew nid w.heap.size).at_ i = κ.at_ i := fun i hi => by simp [K.atNew, not_alive_dead hn hi]
  exact RS.update hR hn (B := w.heap.size) (.inr (Nat.le_refl _)) (fun _ _ h => h) hK hat (fun _ _ _ _ _ h => h) (fun _ _ _ _ _ => rfl) (fun _ _ h => .inl h) (fun b hb _ => hg.old b hb)
    (by rw [hg.size]; omega) (fun _ _ => by rw [hg.size]; omega) hg.os hg.tape hg.output hne (h1 ⟨fun _ _ h => h, hK, hat, fun _ _ _ _ _ h => h⟩) hb hu

theorem var_made (hR : RS κ w σ) (hn : σ[nid]? = some .dead) {cs : List Cell} {c : Array Value} {E : TypeId} (hg : Grew w w' (.cells c E (0, 0))) (hc : RCs κ w cs c.toList)
    (hu : underAll (alive σ) cs = true) :
    Evo κ w σ (κ.atNew nid w.heap.size) w' (σ.set nid (.var cs)) ∧ RS (κ.atNew nid w.heap.size) w' (σ.set nid (.var cs)) ∧
      RV (κ.atNew nid w.heap.size) w' (.one (.ptr nid 0)) (.pointer (some ⟨w.heap.size, 0, none⟩)) ∧ (V.one (.ptr nid 0)).under (alive (σ.set nid (.var cs))) = true := by
  have hat : (κ.atNew nid w.heap.size).at_ nid = some w.heap.size := by simp [K.atNew]
  have h := ob_made (o1 := .var cs) hR hn hg (by simp) (fun hs => ⟨w.heap.size, c, E, hat, hg.new, hc.stays hs hu, fun o ho => absurd (hR.inside _ _ ho) (Nat.lt_irrefl _)⟩)
    (fun b hb => by simp only [blockOf, hat, Option.some.injEq] at hb; exact hb.symm) (underAll_mono (fun i hi => alive_set (by simp) hi) hu)
  exact ⟨h.1, h.2, .one _ _ (.ptr _ _ _ hat), alive_new hn (by simp)⟩

theorem map_made (hR : RS κ w σ) (hn : σ[nid]? = some .dead) (hg : Grew w w' (.map #[] 0)) :
    Evo κ w σ (κ.atNew nid w.heap.size) w' (σ.set nid (.map [])) ∧ RS (κ.atNew nid w.heap.size) w' (σ.set nid (.map [])) ∧
      RV (κ.atNew nid w.heap.size) w' (.one (.map nid)) (.map (some w.heap.size)) ∧ (V.one (.map nid)).under (alive (σ.set nid (.map []))) = true := by
  have hat : (κ.atNew nid w.heap.size).at_ nid = some w.heap.size := by simp [K.atNew]
  have h := ob_made (o1 := .map []) hR hn hg (by simp) (fun _ => ⟨w.heap.size, #[], 0, hat, hg.new, rfl, fun o ho => absurd (hR.inside _ _ ho) (Nat.lt_irrefl _), fun i k x hx => by simp at hx⟩)
    (fun b hb => by simp only [blockOf, hat, Option.some.injEq] at hb; exact hb.symm) rfl
  exact ⟨h.1, h.2, .one _ _ (.map _ _ hat), alive_new hn (by simp)⟩

/-- cells of a row of elements, each as its data -/
def Lies (S : Nat → Nat → Prop) (w : World) (rows : List (List D)) (sz : Nat) (c : Array Value) : Prop :=
  ∀ (i j : Nat) (row : List D) (d : D), rows[i]? = some row → row[j]? = some d → ∃ v, c[i * sz + j]? = some v ∧ RD S w d v

theorem Lies.mono {S S' : Nat → Nat → Prop} {rows sz c} (hS : ∀ b o, S b o → S' b o) (hk : ∀ b o, S b o → cellAt w' b o = cellAt w b o) (h : Lies S w rows sz c) : Lies S' w' rows sz c :=
  fun i j row d hi hj => let ⟨v, hv, hd⟩ := h i j row d hi hj; ⟨v, hv, hd.mono hS hk⟩

/-- an array: of block B -/
def K.arrNew (κ : K) (id ep len : Nat) (v : Value) (S : Nat → Nat → Prop) : K :=
  { κ with S := S, sl := fun i e l => if i = id then (if e = ep ∧ l = len then some v else none) else κ.sl i e l }
def withBlock (S : Nat → Nat → Prop) (m : Bool) (B n : Nat) : Nat → Nat → Prop := fun b o => S b o ∨ (m = false ∧ b = B ∧ o < n)

theorem arr_made (hR : RS κ w σ) (hn : σ[nid]? = some .dead) {rows : List (List D)} {sz cap : Nat} {m : Bool} {c : Array Value} {E : TypeId} (hg : Grew w w' (.cells c E (0, 0)))
    (hrow : ∀ r ∈ rows, r.length = sz) (hcap : rows.length ≤ cap) (hsz : cap * sz ≤ c.size) (hl : Lies κ.S w rows sz c) :
    let κ' := κ.arrNew nid 0 rows.length (.slice (some ⟨w.heap.size, 0, none⟩) rows.length cap) (withBlock κ.S m w.heap.size (rows.length * sz))
    Evo κ w σ κ' w' (σ.set nid (.arr 0 m sz rows)) ∧ RS κ' w' (σ.set nid (.arr 0 m sz rows)) ∧
      RV κ' w' (.one (.arr nid 0 rows.length)) (.slice (some ⟨w.heap.size, 0, none⟩) rows.length cap) ∧ (V.one (.arr nid 0 rows.length)).under (alive (σ.set nid (.arr 0 m sz rows))) = true := by
  intro κ'
  have hsl : κ'.sl nid 0 rows.length = some (.slice (some ⟨w.heap.size, 0, none⟩) rows.length cap) := by simp [κ', K.arrNew]
  have hK : ∀ b o, κ.S b o → cellAt w' b o = cellAt w b o := fun b o h => cell_of_heap (hg.old b (hR.inside b o h)) o
  have hS : ∀ b o, κ.S b o → κ'.S b o := fun b o h => .inl h
  have hno : ∀ o, ¬ κ.S w.heap.size o := fun o ho => absurd (hR.inside _ _ ho) (Nat.lt_irrefl _)
  have h := RS.update (κ' := κ') (w' := w') (o1 := .arr 0 m sz rows) (B := w.heap.size) hR hn (.inr (Nat.le_refl _)) hS hK (fun _ _ => rfl)
    (fun i ep len v hi hv => by simp [κ', K.arrNew, not_alive_dead hn hi, hv]) (fun i hi _ ep len => by simp [κ', K.arrNew, hi])
    (fun b o ho => ho.elim .inl (fun h => .inr h.2.1)) (fun b hb _ => hg.old b hb)
    (by rw [hg.size]; omega) (fun _ _ => by rw [hg.size]; omega) hg.os hg.tape hg.output (by simp)
    ⟨⟨hrow, fun ep' l v hv => by simp only [κ', K.arrNew, if_true] at hv; split at hv <;> simp_all⟩, .inr ⟨w.heap.size, cap, c, E, hsl, hg.new, hcap, hsz, hl.mono hS hK,
      fun hm o ho => by subst hm; exact ho.elim (hno o) (fun h => by simp at h), fun hm o => ⟨fun ho => ho.elim (fun h => absurd h (hno o)) (fun h => h.2.2), fun ho => .inr ⟨hm, rfl, ho⟩⟩⟩⟩
    (fun b hb => by simp only [blockOf, hsl, Option.some.injEq] at hb; exact hb.symm) rfl
  exact ⟨h.1, h.2, .one _ _ (.arr _ _ _ _ _ hsl), alive_new hn (by simp)⟩

theorem arr_nil (hR : RS κ w σ) (hn : σ[nid]? = some .dead) (sz : Nat) (m : Bool) :
    let κ' := κ.arrNew nid 0 0 nilSlice κ.S
    Evo κ w σ κ' w (σ.set nid (.arr 0 m sz [])) ∧ RS κ' w (σ.set nid (.arr 0 m sz [])) ∧
      RV κ' w (.one (.arr nid 0 0)) nilSlice ∧ (V.one (.arr nid 0 0)).under (alive (σ.set nid (.arr 0 m sz []))) = true := by
  intro κ'
  have hsl : κ'.sl nid 0 0 = some nilSlice := by simp [κ', K.arrNew]
  have h := RS.update (κ' := κ') (w' := w) (o1 := .arr 0 m sz []) (B := w.heap.size) hR hn (.inr (Nat.le_refl _)) (fun _ _ h => h) (fun _ _ _ => rfl) (fun _ _ => rfl)
    (fun i ep len v hi hv => by simp [κ', K.arrNew, not_alive_dead hn hi, hv]) (fun i hi _ ep len => by simp [κ', K.arrNew, hi])
    (fun b o ho => .inl ho) (fun b hb _ => rfl)
    (Nat.le_refl _) (fun o ho => hR.inside _ _ ho) rfl rfl rfl (by simp)
    ⟨⟨fun r hr => by simp at hr, fun ep' l v hv => by simp only [κ', K.arrNew, if_true] at hv; split at hv <;> simp_all⟩, .inl ⟨hsl, rfl⟩⟩
    (fun b hb => by simp only [blockOf, List.length_nil, hsl, nilSlice] at hb; simp at hb) rfl
  exact ⟨h.1, h.2, .one _ _ (.arr _ _ _ _ _ hsl), alive_new hn (by simp)⟩

/-- a list that is made and never turned again -/
theorem list_made (hR : RS κ w σ) {rows : List (List D)} {sz cap : Nat} {c : Array Value} {E : TypeId} {f : Nat × Nat} (hg : Grew w w' (.cells c E f))
    (hcap : rows.length ≤ cap) (hrow : ∀ r ∈ rows, r.length = sz) (hl : Lies κ.S w rows sz c) :
    let κ' : K := { κ with S := withBlock κ.S false w.heap.size (rows.length * sz) }
    Evo κ w σ κ' w' σ ∧ RS κ' w' σ ∧ RD κ'.S w' (.list rows) (.slice (some ⟨w.heap.size, 0, none⟩) rows.length cap) := by
  intro κ'
  have hK : ∀ b o, κ.S b o → cellAt w' b o = cellAt w b o := fun b o h => cell_of_heap (hg.old b (hR.inside b o h)) o
  have hS : ∀ b o, κ.S b o → κ'.S b o := fun b o h => .inl h
  have h := RS.fresh (κ' := κ') (w' := w') hR hS rfl rfl (fun b o ho => ho.elim .inl (fun h => .inr (by rw [h.2.1, hg.size]; omega))) (fun b hb => hg.old b hb) (by rw [hg.size]; omega) hg.os hg.tape hg.output
  refine ⟨h.1, h.2, ?_⟩
  have hval : ∀ i j : Nat, ∃ v : Value, ∀ row d, rows[i]? = some row → row[j]? = some d → c[i * sz + j]? = some v ∧ RD κ'.S w' d v := by
    intro i j
    cases hr : rows[i]? with
    | none => exact ⟨Go.undef, fun _ _ h => by simp at h⟩
    | some row =>
      cases hd : row[j]? with
      | none => exact ⟨Go.undef, fun row' d h h' => by injection h with h; subst h; rw [hd] at h'; simp at h'⟩
      | some d =>
        obtain ⟨v, hv, hrd⟩ := hl i j row d hr hd
        exact ⟨v, fun row' d' h h' => by injection h with h; subst h; rw [hd] at h'; injection h' with h'; subst h'; exact ⟨hv, hrd.mono hS hK⟩⟩
  refine .list w.heap.size 0 cap sz rows (fun i j => (hval i j).choose) hcap (fun i row hi => hrow row (List.mem_of_getElem? hi)) (fun i j row d hi hj => ?_) (fun i j row d hi hj => ((hval i j).choose_spec row d hi hj).2)
  have hlt : i < rows.length := (List.getElem?_eq_some_iff.1 hi).1
  have hjl : j < sz := by rw [← hrow row (List.mem_of_getElem? hi)]; exact (List.getElem?_eq_some_iff.1 hj).1
  have hmul : (i + 1) * sz ≤ rows.length * sz := Nat.mul_le_mul_right _ hlt
  rw [Nat.add_mul] at hmul
  exact ⟨.inr ⟨rfl, rfl, by omega⟩, by rw [cells_of_block hg.new, Nat.zero_add]; exact ((hval i j).choose_spec row d hi hj).1⟩
end

/-! what the small makers of the model do -/
section
variable {P : Program} {w : World}
theorem run_newRow (E : TypeId) (c : Array Value) : (newRow E c).run P w = .ok ⟨w.heap.size, 0, none⟩ (alloc w (.cells c E)) := rfl
theorem run_newVar (t : TypeId) (v : Value) : (newVar t v).run P w = .ok ⟨w.heap.size, 0, none⟩ (alloc w (.cells v.cells t)) := rfl
end
end Go.Am
