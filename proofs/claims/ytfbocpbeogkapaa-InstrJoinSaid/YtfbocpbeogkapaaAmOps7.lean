/- The abstract machine: soundness of lengths, conversions and scalars; then of every operation. -/
import Derived.Test.YtfbocpbeogkapaaAmOps6
set_option linter.unusedVariables false
set_option linter.unusedSimpArgs false
namespace Go.Am

section
variable {P : Program} {T : Tab} {κ : K} {w : World} {σ : St} {look : Look}

theorem len_sound (hT : T.fits P) (hR : RS κ w σ) (hl : Sees σ look) {t ty : TypeId} {x : V} {y : Value} {n : Int} (h : lenOf T t look x = some n) (hx : RV κ w x y) :
    (Builtin.len_ #[t] ty #[y]).run P w = .ok (.int .i64 n) w := by
  unfold lenOf at h
  split at h
  · rename_i e hu
    have hy : ∃ a cap, y = .slice a n.toNat cap ∧ 0 ≤ n := by
      split at h
      · injection h with h; subst h
        cases hx with | one _ _ hc => cases hc with | d _ _ hd => cases hd <;> exact ⟨_, _, rfl, by simp⟩
      · injection h with h; subst h
        cases hx with | one _ _ hc => cases hc with | d _ _ hd => cases hd with | sc _ _ => exact ⟨_, _, rfl, by simp⟩
      · injection h with h; subst h
        cases hx with | one _ _ hc => cases hc with | arr _ _ _ a cap hs => exact ⟨_, _, rfl, by simp⟩
      · simp at h
    obtain ⟨a, cap, rfl, h0⟩ := hy
    unfold Builtin.len_
    simp only [List.getElem?_toArray, List.getElem?_cons_zero]
    rw [run_bind (run_underlying hT hu)]
    show Result.ok (Value.int .i64 (n.toNat : Int)) w = _
    rw [Int.toNat_of_nonneg h0]
  · rename_i hu
    split at h
    · injection h with h; subst h
      cases hx with | one _ _ hc => cases hc with | d _ _ hd => cases hd with | sc _ _ =>
      unfold Builtin.len_
      simp only [List.getElem?_toArray, List.getElem?_cons_zero]
      rw [run_bind (run_underlying hT hu)]; rfl
    · simp at h
  · rename_i k e hu
    split at h
    · split at h
      · rename_i es ho
        injection h with h; subst h
        cases hx with | one _ _ hc => cases hc with | map _ b hb =>
        obtain ⟨b', ents, clock, h1, h2, h3, _⟩ := hR.obj _ _ (hl _ _ ho)
        rw [hb] at h1; injection h1 with h1; subst h1
        unfold Builtin.len_
        simp only [List.getElem?_toArray, List.getElem?_cons_zero]
        rw [run_bind (run_underlying hT hu)]
        simp only
        rw [run_bind (run_getObj h2)]
        simp only [goInt, h3]; rfl
      · simp at h
    · simp at h
  · rename_i k e hu
    injection h with h; subst h
    unfold Builtin.len_
    simp only [List.getElem?_toArray, List.getElem?_cons_zero]
    rw [run_bind (run_underlying hT hu)]
    cases y <;> rfl
  · simp at h

/-! conversions -/
theorem bytesOf_spec : ∀ {rows : List (List D)} {bs : List UInt8}, bytesOf rows = some bs → ∃ ns : List Int, rows = ns.map (fun n => [D.sc (.int .u8 n)]) ∧ bs = ns.map fun n => UInt8.ofNat n.toNat
  | [], bs, h => by simp only [bytesOf, Option.some.injEq] at h; subst h; exact ⟨[], rfl, rfl⟩
  | r :: rs, bs, h => by
    unfold bytesOf at h
    split at h
    · rename_i x n; simp at n
    · rename_i x n r' heq
      injection heq with h1 h2; subst h1; subst h2
      cases hb : bytesOf rs with
      | none => simp [hb] at h
      | some bs' =>
        simp only [hb, Option.some.injEq] at h; subst h
        obtain ⟨ns, h1, h2⟩ := bytesOf_spec hb
        exact ⟨n :: ns, by rw [h1]; rfl, by rw [h2]; rfl⟩
    · simp at h

theorem foldl_push (ns : List Int) : ∀ (acc : List UInt8), ns.foldl (fun r n => r.push (UInt8.ofNat n.toNat)) (⟨acc.toArray⟩ : ByteArray) = ⟨(acc ++ ns.map fun n => UInt8.ofNat n.toNat).toArray⟩ := by
  induction ns with
  | nil => intro acc; simp
  | cons n r ih =>
    intro acc
    simp only [List.foldl_cons, List.map_cons]
    have : (⟨acc.toArray⟩ : ByteArray).push (UInt8.ofNat n.toNat) = ⟨(acc ++ [UInt8.ofNat n.toNat]).toArray⟩ := by
      simp [ByteArray.push]
    rw [this, ih]; simp

theorem bytes_string (hR : RS κ w σ) (hl : Sees σ look) {x : V} {y : Value} {rows : List (List D)} {bs : List UInt8} (h : rowsIn look x = some rows) (hb : bytesOf rows = some bs) (hx : RV κ w x y)
    (hns : ∀ s, x ≠ .one (.d (.sc (.string s)))) : (Conv.bytesToString y).run P w = .ok (.string ⟨bs.toArray⟩) w := by
  obtain ⟨ns, hrows, hbs⟩ := bytesOf_spec hb
  have hok : rowsOk 1 rows = true := by
    subst hrows; simp only [rowsOk, List.all_eq_true]
    intro r hr; obtain ⟨n, _, rfl⟩ := List.mem_map.1 hr; rfl
  obtain ⟨vals, hsrc⟩ := src_of (P := P) hR hl h hx hok
  have hlen : rows.length = ns.length := by rw [hrows]; simp
  have hvals : vals = ns.map (Value.int .u8) := by
    apply List.ext_getElem?
    intro i
    have hvl : vals.length = ns.length := by rw [hsrc.size, hlen]; omega
    by_cases hi : i < ns.length
    · obtain ⟨v, hv, hd⟩ := hsrc.lies i 0 [D.sc (.int .u8 ns[i])] (.sc (.int .u8 ns[i])) (by rw [hrows]; simp [hi]) rfl
      simp only [Nat.mul_one, Nat.add_zero, List.getElem?_toArray] at hv
      rw [hv]
      cases hd with | sc _ _ => simp [hi]
    · rw [List.getElem?_eq_none (by omega), List.getElem?_eq_none (by simp; omega)]
  have hslice : ∃ a cap, y = .slice a rows.length cap := by
    unfold rowsIn at h
    split at h
    · injection h with h; subst h
      cases hx with | one _ _ hc => cases hc with | d _ _ hd => cases hd <;> exact ⟨_, _, rfl⟩
    · injection h with h; subst h
      cases hx with | one _ _ hc => cases hc with | d _ _ hd => cases hd with | sc _ _ => exact ⟨_, _, rfl⟩
    · exact absurd rfl (hns _)
    · rename_i id ep len
      cases hx with | one _ _ hc => cases hc with | arr _ _ _ a cap hs =>
      unfold rowsOf at h
      cases ho : look id with
      | none => simp [ho] at h
      | some o =>
      cases o <;> simp only [ho] at h <;> try simp at h
      rename_i ep' m sz rows'
      cases hc : (Nat.beq ep ep' && Nat.beq len rows'.length) with
      | false => rw [hc] at h; simp at h
      | true =>
        rw [hc] at h; injection h with h; subst h
        simp only [Bool.and_eq_true, Nat.beq_eq] at hc
        obtain ⟨_, rfl⟩ := hc
        exact ⟨_, _, rfl⟩
    · simp at h
  obtain ⟨a, cap, rfl⟩ := hslice
  cases a with
  | none =>
    have hc := hsrc.cells w rfl
    have : vals = [] := by
      have h1 : (pure #[] : Sem (Array Value)).run P w = .ok vals.toArray w := hc
      simp only [run_pure, Result.ok.injEq, and_true] at h1
      simpa using congrArg Array.toList h1.symm
    have hn : ns = [] := by rw [hvals] at this; simpa using this
    subst hn; subst hbs
    rfl
  | some a =>
    have hc := hsrc.cells w rfl
    have hc' : (loadCells a (rows.length * 1)).run P w = .ok vals.toArray w := hc
    rw [Nat.mul_one, hvals] at hc'
    rw [run_bytesToString w a rows.length cap ns hc']
    have := foldl_push ns []
    simp only [List.nil_append] at this
    rw [hbs, ← this]; rfl

theorem string_bytes (hR : RS κ w σ) {e : TypeId} (s : ByteArray) :
    ∃ cap c f w', (Conv.stringToBytes e s).run P w = .ok (.slice (some ⟨w.heap.size, 0, none⟩) s.size cap) w' ∧ Grew w w' (.cells c e f) ∧ s.size ≤ cap ∧
      Lies κ.S w (s.data.toList.map fun b => [.sc (.int .u8 b.toNat)]) 1 c := by
  have _ := hR
  let q := Question.appendCap s.size 0 e
  let cap := q.cut (w.tape w.drawn q)
  have hcap : s.size ≤ cap := by simp only [cap, q, Question.cut]; omega
  let w1 : World := { w with drawn := w.drawn + 1 }
  have hch : (choose q).run P w = .ok cap w1 := by simp [choose, Sem.run, Question.forced, q, cap, w1]
  let c : Array Value := s.data.map (fun b => .int .u8 b.toNat) ++ Array.replicate (cap - s.size) (.int .u8 0)
  let w2 := alloc w1 (.cells c e)
  have hw2 : w2.heap[w.heap.size]? = some (.cells c e (0, 0)) := alloc_new w1 _
  let w3 := w2.freeze { block := w.heap.size, off := c.size } 1
  have hmark : (markStringish ⟨w.heap.size, 0, none⟩).run P w2 = .ok () w3 := by
    unfold markStringish
    have hsh : (shape w.heap.size).run P w2 = .ok (some (e, c.size)) w2 := by
      simp only [shape, Sem.run, World.shape?, hw2]
    rw [run_bind hsh]; rfl
  have hlt2 : w.heap.size < w2.heap.size := lt_of_heap hw2
  refine ⟨cap, c, (c.size, c.size + 1), w3, ?_, ⟨?_, ?_, ?_, rfl, rfl, rfl⟩, hcap, ?_⟩
  · unfold Conv.stringToBytes
    rw [run_bind hch]
    simp only
    refine (run_bind (run_newRow (w := w1) e c)).trans ?_
    refine (run_bind hmark).trans ?_
    rfl
  · simp only [w3, World.freeze, if_neg (show ¬ (1 = 0) by omega)]
    rw [Array.getElem?_modify, if_pos rfl, hw2]; rfl
  · simp only [w3, World.freeze, if_neg (show ¬ (1 = 0) by omega), Array.size_modify]
    exact alloc_size w1 _
  · intro b hb
    simp only [w3, World.freeze, if_neg (show ¬ (1 = 0) by omega)]
    rw [Array.getElem?_modify, if_neg (by omega)]
    exact alloc_old (w := w1) hb
  · intro i j row d hi hj
    simp only [List.getElem?_map, Option.map_eq_some_iff] at hi
    obtain ⟨b, hb, rfl⟩ := hi
    cases j with
    | succ j => simp at hj
    | zero =>
      simp at hj; subst hj
      refine ⟨.int .u8 b.toNat, ?_, .sc _ rfl⟩
      have hlt : i < s.data.size := by have := (List.getElem?_eq_some_iff.1 hb).1; simpa using this
      simp only [c, Nat.mul_one, Nat.add_zero]
      rw [Array.getElem?_append, if_pos (by simpa using hlt)]
      rw [Array.getElem?_toList] at hb
      rw [Array.getElem?_map, hb]; rfl

/-! scalars -/
theorem scalCells_sound : ∀ {cs : List Cell} {vs ys : List Value}, scalCells cs = some vs → RCs κ w cs ys → ys = vs
  | [], vs, ys, h, hc => by
    simp only [scalCells, Option.some.injEq] at h; subst h
    exact List.length_eq_zero_iff.1 (by have := hc.1; simpa using this.symm)
  | c :: cs, vs, [], h, hc => by have := hc.1; simp at this
  | c :: cs, vs, y :: ys, h, hc => by
    unfold scalCells at h
    split at h
    · rename_i heq; simp at heq
    · rename_i v r heq
      injection heq with h1 h2; subst h1; subst h2
      cases hr : scalCells cs with
      | none => simp [hr] at h
      | some vs' =>
        simp only [hr, Option.some.injEq] at h; subst h
        rw [scalCells_sound hr hc.tail]
        cases hc.head with | d _ _ hd => cases hd with | sc _ _ => rfl
    · simp at h
theorem scal_sound {v : V} {x y : Value} (h : v.scal = some y) (hv : RV κ w v x) : x = y := by
  unfold V.scal at h
  split at h
  · injection h with h; subst h
    cases hv with | one _ _ hc => cases hc with | d _ _ hd => cases hd with | sc _ _ => rfl
  · rename_i cs
    cases hc : scalCells cs with
    | none => simp [hc] at h
    | some vs =>
      simp only [hc, Option.some.injEq] at h; subst h
      cases hv with | agg _ ws hcs =>
      have := scalCells_sound hc hcs
      rw [← this]
  · simp at h

theorem scalOp_sound {ρ : Operand → Option V} {η : Operand → Value} {o : Oper} {v : V} (hρ : ∀ x v, ρ x = some v → RV κ w v (η x)) (h : scalOp P ρ o = some v) :
    ∃ y, (execOp η o).run P w = .ok (.value y) w ∧ RV κ w v y ∧ ∀ L, v.under L = true := by
  unfold scalOp at h
  split at h
  case h_2 => simp at h
  rename_i hall
  simp only [Bool.and_eq_true, List.all_eq_true] at hall
  obtain ⟨hsel, hall⟩ := hall
  split at h
  · rename_i y hp
    obtain ⟨h1, h2⟩ := ofValue_sound (κ := κ) (w := w) h
    refine ⟨y, ?_, h1, h2⟩
    rw [← pureRun_sound (w := w) hp]
    congr 1
    refine execOp_congr o (fun cs b e => by rw [e] at hsel; simp [isSelect] at hsel) fun x hx => ?_
    have := hall x (by simpa using hx)
    cases hv : ρ x with
    | none => simp [hv] at this
    | some v =>
      simp only [hv] at this ⊢
      cases hs : v.scal with
      | none => simp [hs] at this
      | some z => exact scal_sound hs (hρ x v hv)
  · simp at h
end
end Go.Am
