/- The abstract machine: append, the third part: its soundness. -/
import Derived.Test.YtfbocpbeogkapaaAmApp2
set_option linter.unusedVariables false
set_option linter.unusedSimpArgs false
namespace Go.Am

def K.arrMore (κ : K) (id ep len : Nat) (v : Value) (S : Nat → Nat → Prop) : K :=
  { κ with S := S, sl := fun i e l => if i = id ∧ e = ep ∧ l = len then some v else κ.sl i e l }

theorem set_same {α : Type} {l : List α} {i : Nat} {x : α} (h : l[i]? = some x) : l.set i x = l := by
  apply List.ext_getElem?
  intro j
  by_cases hj : i = j
  · subst hj; rw [List.getElem?_set_self (List.getElem?_eq_some_iff.1 h).1, h]
  · rw [List.getElem?_set_ne hj]

section
variable {P : Program} {T : Tab} {κ : K} {w : World} {σ : St} {look : Look}

theorem arr_moved (hR : RS κ w σ) {id ep sz cap B : Nat} {m : Bool} {rows rows' : List (List D)} {c : Array Value} {E : TypeId} {w' : World}
    (h0 : σ[id]? = some (.arr ep m sz rows)) (hB : blockOf κ id (.arr ep m sz rows) = some B ∨ w.heap.size ≤ B) (hlt : rows.length < rows'.length)
    (hK : ∀ b o, κ.S b o → cellAt w' b o = cellAt w b o) (hnew : w'.heap[B]? = some (.cells c E (0, 0)))
    (hframe : ∀ b, b < w.heap.size → b ≠ B → w'.heap[b]? = w.heap[b]?) (hsize : w.heap.size ≤ w'.heap.size)
    (os : w'.os = w.os) (tape : w'.tape = w.tape) (output : w'.output = w.output)
    (hrow : ∀ r ∈ rows', r.length = sz) (hcap : rows'.length ≤ cap) (hsz : cap * sz ≤ c.size) (hl : Lies κ.S w rows' sz c)
    (hSB : ∀ o, κ.S B o → m = false ∧ o < rows'.length * sz) :
    let κ' := κ.arrMore id ep rows'.length (.slice (some ⟨B, 0, none⟩) rows'.length cap) (withBlock κ.S m B (rows'.length * sz))
    Evo κ w σ κ' w' (σ.set id (.arr ep m sz rows')) ∧ RS κ' w' (σ.set id (.arr ep m sz rows')) ∧
      RV κ' w' (.one (.arr id ep rows'.length)) (.slice (some ⟨B, 0, none⟩) rows'.length cap) ∧ (V.one (.arr id ep rows'.length)).under (alive (σ.set id (.arr ep m sz rows'))) = true := by
  intro κ'
  have hlid : id < σ.length := (List.getElem?_eq_some_iff.1 h0).1
  obtain ⟨⟨_, hfr⟩, _⟩ := hR.obj _ _ h0
  have hsl : κ'.sl id ep rows'.length = some (.slice (some ⟨B, 0, none⟩) rows'.length cap) := by simp [κ', K.arrMore]
  have hS : ∀ b o, κ.S b o → κ'.S b o := fun b o h => .inl h
  have h := RS.update (κ' := κ') (w' := w') (o1 := .arr ep m sz rows') (B := B) hR h0 hB hS hK (fun _ _ => rfl)
    (fun i e len v hi hv => by
      simp only [κ', K.arrMore]
      split
      · rename_i hx
        obtain ⟨rfl, rfl, rfl⟩ := hx
        rcases hfr _ _ _ hv with h | ⟨_, h⟩ <;> omega
      · exact hv)
    (fun i hi _ e len => by simp [κ', K.arrMore, hi])
    (fun b o ho => ho.elim .inl (fun h => .inr h.2.1)) hframe hsize (fun _ _ => lt_of_heap hnew) os tape output (by simp)
    ⟨⟨hrow, fun ep' l v hv => by
        simp only [κ', K.arrMore] at hv
        split at hv
        · rename_i hx; exact .inr ⟨hx.2.1, by rw [hx.2.2]; exact Nat.le_refl _⟩
        · rcases hfr _ _ _ hv with h | ⟨h1, h2⟩
          · exact .inl h
          · exact .inr ⟨h1, by omega⟩⟩,
      .inr ⟨B, cap, c, E, hsl, hnew, hcap, hsz, hl.mono hS hK,
        fun hm o ho => by
          rcases ho with ho | ho
          · have := (hSB o ho).1; rw [hm] at this; simp at this
          · have := ho.1; rw [hm] at this; simp at this,
        fun hm o => ⟨fun ho => ho.elim (fun h => (hSB o h).2) (fun h => h.2.2), fun ho => .inr ⟨hm, rfl, ho⟩⟩⟩⟩
    (fun b hb => by simp only [blockOf, hsl, Option.some.injEq] at hb; exact hb.symm) rfl
  exact ⟨h.1, h.2, .one _ _ (.arr _ _ _ _ _ hsl), alive_iff.2 ⟨_, by rw [List.getElem?_set_self hlid], by simp⟩⟩

/-- what is appended lies behind what was there -/
theorem Lies.append {S : Nat → Nat → Prop} {rows xs : List (List D)} {sz : Nat} {c : Array Value} {olds vals : List Value} (hr : ∀ r ∈ rows, r.length = sz) (hx : ∀ r ∈ xs, r.length = sz)
    (hol : olds.length = rows.length * sz) (h1 : Lies S w rows sz olds.toArray) (h2 : Lies S w xs sz vals.toArray)
    (hc : ∀ i, i < (rows.length + xs.length) * sz → c[i]? = (olds ++ vals)[i]?) : Lies S w (rows ++ xs) sz c := by
  intro i j row d hi hj
  have hmem : ∀ (l : List (List D)) (n : Nat), (∀ r ∈ l, r.length = sz) → ∀ k, l[k]? = some row → l.length = n → k * sz + j < n * sz := by
    intro l n hl k hk hn
    have hjl : j < sz := by rw [← hl row (List.mem_of_getElem? hk)]; exact (List.getElem?_eq_some_iff.1 hj).1
    have hlt : k < l.length := (List.getElem?_eq_some_iff.1 hk).1
    have hmul : (k + 1) * sz ≤ n * sz := Nat.mul_le_mul_right _ (by omega)
    rw [Nat.add_mul] at hmul; omega
  rw [List.getElem?_append] at hi
  split at hi
  · rename_i hlt
    obtain ⟨v, hv, hd⟩ := h1 i j row d hi hj
    have hlt2 := hmem rows rows.length hr i hi rfl
    refine ⟨v, ?_, hd⟩
    rw [hc _ (by rw [Nat.add_mul]; omega), List.getElem?_append, if_pos (by omega)]
    simpa using hv
  · rename_i hge
    obtain ⟨v, hv, hd⟩ := h2 (i - rows.length) j row d hi hj
    have hlt2 := hmem xs xs.length hx (i - rows.length) hi rfl
    have he : i * sz = rows.length * sz + (i - rows.length) * sz := by rw [← Nat.add_mul]; congr 1; omega
    refine ⟨v, ?_, hd⟩
    rw [hc _ (by rw [Nat.add_mul]; omega), List.getElem?_append, if_neg (by omega), show i * sz + j - olds.length = (i - rows.length) * sz + j from by omega]
    simpa using hv

theorem elem_of {t e : TypeId} {sz wb : Nat} {z : List Cell} (h1 : T.elem t = some e) (h2 : T.size e = some sz) (h3 : T.bytes e = some (wb + 1)) (h4 : zeroCells T e = some z) (h5 : z.length = sz) :
    Elem T t e sz wb := by
  refine ⟨?_, h2, h3, ?_⟩
  · unfold Tab.elem at h1
    split at h1
    · rename_i e' he; injection h1 with h1; subst h1; exact he
    · simp at h1
  · unfold zeroCells at h4
    cases hz : T.zero e with
    | none => rw [hz] at h4; simp at h4
    | some z' =>
      rw [hz] at h4; simp only at h4
      cases hp : allPlain z'.cells.toList with
      | false => rw [hp] at h4; simp at h4
      | true =>
        rw [hp] at h4; simp only [cond_true, Option.some.injEq] at h4; subst h4
        exact ⟨z', rfl, by simpa [ofCells] using h5, hp⟩

theorem append_sound (hT : T.fits P) (hR : RS κ w σ) (hl : Sees σ look) {nid : Nat} {mode : Option Bool} {t t' ty : TypeId} {s x v : V} {u : Upd} {sv y : Value}
    (h : appendOf T nid mode t s x look = some (v, u)) (hs : RV κ w s sv) (hx : RV κ w x y) (ht' : notInt T t') (hn : mode.isSome = true → σ[nid]? = some .dead) :
    OpOk κ w σ ((do pure (Next.value (← Builtin.append_ #[t, t'] ty #[sv, y])) : Sem Next).run P w) v u := by
  unfold appendOf at h
  cases he : T.elem t with
  | none => simp [he] at h
  | some e =>
  cases hxs : rowsIn look x with
  | none => simp [he, hxs] at h
  | some xs =>
  simp only [he, hxs] at h
  cases hsz : T.size e with
  | none => simp [hsz] at h
  | some sz =>
  cases hwb : T.bytes e with
  | none => simp [hsz, hwb] at h
  | some wb =>
  cases wb with
  | zero => simp [hsz, hwb] at h
  | succ wb =>
  cases hz : zeroCells T e with
  | none => simp [hsz, hwb, hz] at h
  | some z =>
  simp only [hsz, hwb, hz] at h
  cases hok : rowsOk sz xs && Nat.beq z.length sz with
  | false => rw [hok] at h; simp at h
  | true =>
  rw [hok] at h; simp only [cond_true] at h
  simp only [Bool.and_eq_true, Nat.beq_eq] at hok
  have hE := elem_of he hsz hwb hz hok.2
  obtain ⟨vals, hsrc⟩ := src_of (P := P) hR hl hxs hx hok.1
  split at h
  · -- onto nil
    cases hs with | one _ _ hc => cases hc with | d _ _ hd => cases hd with | sc _ _ =>
    cases hroom : Nat.ble (xs.length * (wb + 1)) most with
    | false => rw [hroom] at h; simp at h
    | true =>
    rw [hroom] at h; simp only [cond_true] at h
    have hroom' := Nat.le_of_ble_eq_true hroom
    cases hxl : xs with
    | nil =>
      subst hxl
      have hrun := run_append_fits (P := P) (ty := ty) (w' := w) (base := none) (sLen := 0) (sCap := 0) hT hE ht' hsrc (Nat.le_refl _) (fun a ha => by simp at ha) (fun _ => rfl)
      cases mode with
      | none =>
        simp only [Option.some.injEq, Prod.mk.injEq] at h; obtain ⟨rfl, rfl⟩ := h
        exact .quiet hR (by rw [run_bind hrun]; rfl) (.one _ _ (.d _ _ (.nil _ _))) rfl
      | some m =>
        simp only [Option.some.injEq, Prod.mk.injEq] at h; obtain ⟨rfl, rfl⟩ := h
        obtain ⟨h1, h2, h3, h4⟩ := arr_nil hR (hn rfl) sz m
        exact ⟨_, _, _, .inl (by rw [run_bind hrun]; rfl), h3, h4, h1, h2⟩
    | cons x0 xr =>
      have hpos : 0 < 0 + xs.length := by rw [hxl]; simp
      obtain ⟨cap, c, w', hrun, hg, hcap, hcs, hcc⟩ := run_append_grows (P := P) (ty := ty) (base := none) (sLen := 0) (sCap := 0) (olds := []) hT hE ht' hsrc hpos (by simpa using hroom') (fun _ _ => rfl) (by simp)
      have hlies : Lies κ.S w xs sz c := by
        have := Lies.append (w := w) (S := κ.S) (rows := []) (xs := xs) (olds := []) (vals := vals) (c := c) (by simp) hsrc.rows (by simp) (fun i j row d hi => by simp at hi) hsrc.lies (by simpa using hcc)
        simpa using this
      simp only [Nat.zero_add] at hrun hcap
      cases mode with
      | none =>
        simp only [Option.some.injEq, Prod.mk.injEq] at h; obtain ⟨rfl, rfl⟩ := h
        obtain ⟨h1, h2, h3⟩ := list_made (cap := cap) hR hg hcap hsrc.rows hlies
        exact ⟨_, _, _, .inl (by rw [run_bind hrun]; rfl), .one _ _ (.d _ _ h3), rfl, h1, h2⟩
      | some m =>
        simp only [Option.some.injEq, Prod.mk.injEq] at h; obtain ⟨rfl, rfl⟩ := h
        obtain ⟨h1, h2, h3, h4⟩ := arr_made (m := m) hR (hn rfl) hg hsrc.rows hcap (by omega) hlies
        exact ⟨_, _, _, .inl (by rw [run_bind hrun]; rfl), h3, h4, h1, h2⟩
  · -- onto an array
    rename_i id ep len
    cases ho : look id with
    | none => simp [ho] at h
    | some o =>
    cases o <;> simp only [ho] at h <;> try simp at h
    rename_i ep' m sz' rows
    cases hc : (Nat.beq ep ep' && Nat.beq len rows.length) && Nat.beq sz' sz && Nat.ble ((rows.length + xs.length) * (wb + 1)) most with
    | false => rw [hc] at h; simp at h
    | true =>
    rw [hc] at h; simp only [cond_true, Option.some.injEq, Prod.mk.injEq] at h; obtain ⟨rfl, rfl⟩ := h
    simp only [Bool.and_eq_true, Nat.beq_eq] at hc
    obtain ⟨⟨⟨rfl, rfl⟩, rfl⟩, hroom⟩ := hc
    have hroom' := Nat.le_of_ble_eq_true hroom
    have ho' := hl _ _ ho
    have hob := hR.obj _ _ ho'
    obtain ⟨⟨hrows, hfr⟩, hob⟩ := hob
    cases hs with | one _ _ hc => cases hc with | arr _ _ _ a cap hsl0 =>
    cases hxl : xs with
    | nil =>
      -- nothing is appended
      subst hxl
      simp only [List.length_nil, Nat.add_zero, List.append_nil]
      have hupd : St.upd σ [(id, Ob.arr ep m sz' rows)] = σ := set_same ho'
      have hcap : rows.length ≤ cap := by
        rcases hob with ⟨h1, h2⟩ | ⟨b, cap', c, E, h1, _, h3, _⟩
        · subst h2; simp
        · rw [hsl0] at h1; injection h1 with h1; injection h1 with _ _ h1; omega
      have hvn : vals = [] := List.length_eq_zero_iff.1 (by rw [hsrc.size]; simp)
      have hrun := run_append_fits (P := P) (ty := ty) (w' := w) (base := a) (sLen := rows.length) (sCap := cap) hT hE ht' hsrc (by simpa using hcap) (fun a ha => by subst hvn; rfl) (fun _ => rfl)
      refine ⟨_, w, κ, .inl (by rw [run_bind hrun]; rfl), .one _ _ (.arr _ _ _ a cap hsl0), ?_, by rw [hupd]; exact .refl, by rw [hupd]; exact hR⟩
      rw [hupd]; exact alive_iff.2 ⟨_, ho', by simp⟩
    | cons x0 xr =>
      have hpos : rows.length < rows.length + xs.length := by rw [hxl]; simp
      rw [← hxl]
      have hlen : (rows ++ xs).length = rows.length + xs.length := by simp
      have hallrow : ∀ r ∈ rows ++ xs, r.length = sz' := fun r hr => (List.mem_append.1 hr).elim (hrows r) (hsrc.rows r)
      rcases hob with ⟨h1, h2⟩ | ⟨b, cap', c, E, h1, h2, h3, h4, h5, h6, h7⟩
      · -- it was nil
        subst h2
        rw [hsl0] at h1; injection h1 with h1; injection h1 with h1 h1' h1''; subst h1; subst h1''
        obtain ⟨cap, c, w', hrun, hg, hcap, hcs, hcc⟩ := run_append_grows (P := P) (ty := ty) (base := none) (sLen := 0) (sCap := 0) (olds := []) hT hE ht' hsrc (by simpa using hpos) (by simpa using hroom') (fun _ _ => rfl) (by simp)
        have hlies : Lies κ.S w ([] ++ xs) sz' c :=
          Lies.append (w := w) (S := κ.S) (rows := []) (xs := xs) (olds := []) (vals := vals) (c := c) (by simp) hsrc.rows (by simp) (fun i j row d hi => by simp at hi) hsrc.lies (by simpa using hcc)
        obtain ⟨g1, g2, g3, g4⟩ := arr_moved (rows' := [] ++ xs) (cap := cap) hR ho' (.inr (Nat.le_refl _)) (by simpa using hpos)
          (fun b o h => cell_of_heap (hg.old b (hR.inside b o h)) o) hg.new (fun b hb _ => hg.old b hb) (by rw [hg.size]; omega) hg.os hg.tape hg.output hallrow (by simpa using hcap) (by omega) hlies
          (fun o ho => absurd (hR.inside _ _ ho) (Nat.lt_irrefl _))
        simp only [List.length_nil, Nat.zero_add, List.nil_append] at g1 g2 g3 g4 hrun ⊢
        exact ⟨_, _, _, .inl (by rw [run_bind hrun]; rfl), g3, g4, g1, g2⟩
      · have h1' := h1
        rw [hsl0] at h1; injection h1 with h1; injection h1 with h1 _ h1''; subst h1; subst h1''
        have hblk : blockOf κ id (.arr ep m sz' rows) = some b := by simp [blockOf, h1']
        by_cases hfit : rows.length + xs.length ≤ cap
        · -- there is room
          have hvl : vals.length = xs.length * sz' := hsrc.size
          have hle : rows.length * sz' + vals.length ≤ c.size := by
            rw [hvl, ← Nat.add_mul]; exact Nat.le_trans (Nat.mul_le_mul_right _ hfit) h4
          have hst := run_storeCells (P := P) (E := E) (b := b) (o := rows.length * sz') vals 0 w c h2 hsrc.plain (by simpa using hle)
          generalize hw' : put w b (.cells (putCells c (rows.length * sz' + 0) vals) E (0, 0)) = w' at hst
          simp only [Nat.add_zero] at hw'
          have hrun := run_append_fits (P := P) (ty := ty) (w' := w') (base := some ⟨b, 0, none⟩) (sLen := rows.length) (sCap := cap) hT hE ht' hsrc hfit
            (fun a ha => by injection ha with ha; subst ha; rw [addr_add, Nat.zero_add]; exact hst) (fun h => by simp at h)
          have hnewb : w'.heap[b]? = some (.cells (putCells c (rows.length * sz') vals) E (0, 0)) := by subst hw'; exact put_same h2
          have hK : ∀ b' o, κ.S b' o → cellAt w' b' o = cellAt w b' o := by
            intro b' o hso
            by_cases hb : b' = b
            · subst hb
              have hmf : m = false := by
                cases m with
                | false => rfl
                | true => exact absurd hso (h6 rfl o)
              have hlt := (h7 hmf o).1 hso
              rw [cells_of_block hnewb, cells_of_block h2, putCells_get hle, if_pos hlt]
            · subst hw'; exact cell_of_heap (put_other hb) o
          have hlies : Lies κ.S w (rows ++ xs) sz' (putCells c (rows.length * sz') vals) := by
            refine Lies.append (w := w) (S := κ.S) (rows := rows) (xs := xs) (olds := c.toList.take (rows.length * sz')) (vals := vals) hrows hsrc.rows (by simp; omega) ?_ hsrc.lies ?_
            · intro i j row d hi hj
              obtain ⟨v, hv, hd⟩ := h5 i j row d hi hj
              refine ⟨v, ?_, hd⟩
              have hjl : j < sz' := by rw [← hrows row (List.mem_of_getElem? hi)]; exact (List.getElem?_eq_some_iff.1 hj).1
              have hil : i < rows.length := (List.getElem?_eq_some_iff.1 hi).1
              have hmul : (i + 1) * sz' ≤ rows.length * sz' := Nat.mul_le_mul_right _ hil
              rw [Nat.add_mul] at hmul
              simp only [List.getElem?_toArray, List.getElem?_take]
              rw [if_pos (by omega), Array.getElem?_toList]; exact hv
            · intro i hi
              rw [putCells_get hle]
              rw [Nat.add_mul, ← hvl] at hi
              rw [List.getElem?_append, List.length_take, Nat.min_eq_left (by simp; omega)]
              by_cases hi1 : i < rows.length * sz'
              · rw [if_pos hi1, if_pos hi1, List.getElem?_take, if_pos hi1, Array.getElem?_toList]
              · rw [if_neg hi1, if_pos hi, if_neg hi1]
          obtain ⟨g1, g2, g3, g4⟩ := arr_moved (rows' := rows ++ xs) (cap := cap) (w' := w') hR ho' (.inl hblk) (by rw [hlen]; exact hpos)
            hK hnewb (fun b' _ hne => by subst hw'; exact put_other hne) (by subst hw'; rw [put_size]; exact Nat.le_refl _) (by subst hw'; rfl) (by subst hw'; rfl) (by subst hw'; rfl) hallrow (by rw [hlen]; exact hfit)
            (by rw [putCells_size hle]; exact h4) hlies
            (fun o hso => by
              cases m with
              | true => exact absurd hso (h6 rfl o)
              | false => exact ⟨rfl, by have := (h7 rfl o).1 hso; rw [hlen, Nat.add_mul]; omega⟩)
          rw [hlen] at g1 g2 g3 g4
          exact ⟨_, _, _, .inl (by rw [run_bind hrun]; rfl), g3, g4, g1, g2⟩
        · -- a new block
          have holds : (c.toList.take (rows.length * sz')).length = rows.length * sz' := by
            have : rows.length * sz' ≤ cap * sz' := Nat.mul_le_mul_right _ h3
            simp; omega
          obtain ⟨cap2, c2, w', hrun, hg, hcap2, hcs2, hcc2⟩ := run_append_grows (P := P) (ty := ty) (base := some ⟨b, 0, none⟩) (sLen := rows.length) (sCap := cap) (olds := c.toList.take (rows.length * sz')) hT hE ht' hsrc (by omega) hroom'
            (fun w2 hw2 => run_loadCells b 0 _ _ holds fun j v hj => by
              rw [cellAt_heap hw2, cells_of_block h2, Nat.zero_add]
              rw [List.getElem?_take] at hj
              split at hj
              · rw [← Array.getElem?_toList]; exact hj
              · simp at hj) holds
          have hlies : Lies κ.S w (rows ++ xs) sz' c2 := by
            refine Lies.append (w := w) (S := κ.S) (rows := rows) (xs := xs) (olds := c.toList.take (rows.length * sz')) (vals := vals) hrows hsrc.rows holds ?_ hsrc.lies hcc2
            intro i j row d hi hj
            obtain ⟨v, hv, hd⟩ := h5 i j row d hi hj
            refine ⟨v, ?_, hd⟩
            have hjl : j < sz' := by rw [← hrows row (List.mem_of_getElem? hi)]; exact (List.getElem?_eq_some_iff.1 hj).1
            have hil : i < rows.length := (List.getElem?_eq_some_iff.1 hi).1
            have hmul : (i + 1) * sz' ≤ rows.length * sz' := Nat.mul_le_mul_right _ hil
            rw [Nat.add_mul] at hmul
            simp only [List.getElem?_toArray, List.getElem?_take]
            rw [if_pos (by omega), Array.getElem?_toList]; exact hv
          obtain ⟨g1, g2, g3, g4⟩ := arr_moved (rows' := rows ++ xs) (cap := cap2) (w' := w') hR ho' (.inr (Nat.le_refl _)) (by rw [hlen]; exact hpos)
            (fun b o h => cell_of_heap (hg.old b (hR.inside b o h)) o) hg.new (fun b hb _ => hg.old b hb) (by rw [hg.size]; omega) hg.os hg.tape hg.output hallrow (by rw [hlen]; exact hcap2) (by omega) hlies
            (fun o ho => absurd (hR.inside _ _ ho) (Nat.lt_irrefl _))
          rw [hlen] at g1 g2 g3 g4
          exact ⟨_, _, _, .inl (by rw [run_bind hrun]; rfl), g3, g4, g1, g2⟩
  · simp at h
end
end Go.Am
