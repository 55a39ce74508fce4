/- The abstract machine: soundness of slicing, of what is built, and of interfaces. -/
import Derived.Test.YtfbocpbeogkapaaAmOps2
set_option linter.unusedVariables false
set_option linter.unusedSimpArgs false
namespace Go.Am

section
variable {P : Program} {T : Tab} {κ : K} {w : World} {σ : St} {look : Look}

/-! slices -/
/-- a bound as the model finds it -/
def isBound (b : Option Int) (v : Option Value) : Prop := match b, v with
  | none, none => True
  | some n, some (.int _ m) => n = m
  | _, _ => False

theorem run_sliceBounds {isSlice : Bool} {len cap : Nat} {lo hi : Option Int} {low high : Option Value} (hlo : isBound lo low) (hhi : isBound hi high) (hlc : len ≤ cap)
    (h0 : 0 ≤ lo.getD 0) (h1 : lo.getD 0 ≤ hi.getD len) (h2 : hi.getD len ≤ cap) :
    (Instr.sliceBounds isSlice len cap low high none).run P w = .ok ((lo.getD 0).toNat, (hi.getD len).toNat, cap) w := by
  have hb : ∀ (k : IntKind) (n : Int) (m : Nat) (c : BoundsCode), 0 ≤ n → n ≤ m → (Instr.sliceBound (.int k n) m c).run P w = .ok n.toNat w := by
    intro k n m c hn hm
    unfold Instr.sliceBound
    rw [run_bind (run_asIntOf k n)]
    simp only
    rw [if_pos ⟨hn, hm⟩]; rfl
  cases low with
  | none =>
    cases lo with
    | some _ => simp [isBound] at hlo
    | none =>
    cases high with
    | none =>
      cases hi with
      | some _ => simp [isBound] at hhi
      | none => rfl
    | some v =>
      cases hi with
      | none => simp [isBound] at hhi
      | some n =>
        cases v <;> simp only [isBound] at hhi
        subst hhi
        simp only [Option.getD_some, Option.getD_none] at h0 h1 h2 ⊢
        unfold Instr.sliceBounds
        refine (run_bind (a := cap) (w' := w) rfl).trans ?_
        refine (run_bind (hb _ _ _ _ (by omega) h2)).trans ?_
        rfl
  | some u =>
    cases lo with
    | none => simp [isBound] at hlo
    | some p =>
    cases u <;> simp only [isBound] at hlo
    subst hlo
    cases high with
    | none =>
      cases hi with
      | some _ => simp [isBound] at hhi
      | none =>
        simp only [Option.getD_some, Option.getD_none] at h0 h1 h2 ⊢
        unfold Instr.sliceBounds
        refine (run_bind (a := cap) (w' := w) rfl).trans ?_
        refine (run_bind (a := len) (w' := w) rfl).trans ?_
        refine (run_bind (hb _ _ _ _ h0 h1)).trans ?_
        rfl
    | some v =>
      cases hi with
      | none => simp [isBound] at hhi
      | some n =>
        cases v <;> simp only [isBound] at hhi
        subst hhi
        simp only [Option.getD_some] at h0 h1 h2 ⊢
        unfold Instr.sliceBounds
        refine (run_bind (a := cap) (w' := w) rfl).trans ?_
        refine (run_bind (hb _ _ _ _ (by omega) h2)).trans ?_
        refine (run_bind (hb _ _ _ _ h0 (by omega))).trans ?_
        rfl

theorem elem_und {t e : TypeId} (h1 : T.elem t = some e) : T.und t = some (.slice e) := by
  unfold Tab.elem at h1
  split at h1
  · rename_i e' he; injection h1 with h1; subst h1; exact he
  · simp at h1

theorem run_sliceAt_slice (hT : T.fits P) {t e n : Nat} (he : T.elem t = some e) (hn : T.size e = some n) {a : Option Addr} {len cap : Nat} {lo hi : Option Int} {low high : Option Value}
    (hlo : isBound lo low) (hhi : isBound hi high) (hlc : len ≤ cap)
    (h0 : 0 ≤ lo.getD 0) (h1 : lo.getD 0 ≤ hi.getD len) (h2 : hi.getD len ≤ cap) :
    (Instr.sliceAt t (.slice a len cap) low high none).run P w =
      .ok (.slice (if cap = (lo.getD 0).toNat then a else a.map (·.add ((lo.getD 0).toNat * n))) ((hi.getD len).toNat - (lo.getD 0).toNat) (cap - (lo.getD 0).toNat)) w := by
  have hund := elem_und he
  unfold Instr.sliceAt
  rw [run_bind (run_underlying hT hund)]
  simp only
  unfold Instr.slice
  rw [run_bind (run_underlying hT hund)]
  simp only
  rw [run_bind (run_sliceBounds hlo hhi hlc h0 h1 h2)]
  simp only
  rw [run_bind (run_sizeOf hT hn)]; rfl

/-- a part of a list is a list -/
theorem RD.part {S : Nat → Nat → Prop} {rows : List (List D)} {a : Option Addr} {len cap n : Nat} (h : RD S w (.list rows) (.slice a len cap)) (hok : rowsOk n rows = true) {l q : Nat} (h1 : l ≤ q) (h2 : q ≤ rows.length) :
    RD S w (.list ((rows.take q).drop l)) (.slice (if cap = l then a else a.map (·.add (l * n))) (q - l) (cap - l)) := by
  have hlen : ((rows.take q).drop l).length = q - l := by simp; omega
  by_cases hz : (rows.take q).drop l = []
  · rw [hz]
    rw [hz] at hlen; simp at hlen
    rw [show q - l = 0 from by omega]; exact .nil _ _
  · have hne : rows ≠ [] := by intro e; subst e; simp at hz
    cases h with
    | nil a cap => exact absurd rfl hne
    | list b off cap sz _ vs hcap hr hcell hrel =>
      have hpos : l < q := by
        rcases Nat.lt_or_ge l q with h | h
        · exact h
        · exact absurd (List.length_eq_zero_iff.1 (by omega)) hz
      have hsz : sz = n := by
        cases hrows : rows with
        | nil => exact absurd hrows hne
        | cons r0 rs =>
          have := hr 0 r0 (by rw [hrows]; rfl)
          rw [← this]; exact rowsOk_spec hok r0 (by rw [hrows]; simp)
      subst hsz
      rw [if_neg (by omega)]
      simp only [Option.map_some, addr_add]
      rw [← hlen]
      have hget : ∀ i row, ((rows.take q).drop l)[i]? = some row → rows[l + i]? = some row := by
        intro i row hi
        rw [List.getElem?_drop, List.getElem?_take] at hi
        split at hi
        · exact hi
        · simp at hi
      refine .list b (off + l * sz) (cap - l) sz _ (fun i j => vs (l + i) j) (by omega) (fun i row hi => hr _ row (hget i row hi)) (fun i j row d hi hj => ?_) (fun i j row d hi hj => hrel _ j row d (hget i row hi) hj)
      have := hcell (l + i) j row d (hget i row hi) hj
      rw [Nat.add_mul, Nat.add_assoc, ← Nat.add_assoc off] at this
      exact this

theorem slice_sound (hT : T.fits P) (hR : RS κ w σ) (hl : Sees σ look) {t : TypeId} {x v : V} {u : Upd} {y : Value} {lo hi : Option Int} {low high : Option Value} {cut : Option Bool}
    (h : sliceOf T t x lo hi cut look = some (v, u)) (hx : RV κ w x y) (hu : x.under (alive σ) = true) (hlo : isBound lo low) (hhi : isBound hi high) :
    OpOk κ w σ ((do pure (Next.value (← Instr.sliceAt t y low high none)) : Sem Next).run P w) v u := by
  unfold sliceOf at h
  simp only at h
  split at h
  · rename_i s
    split at h
    case h_2 => simp at h
    rename_i hund
    cases hc : decide (0 ≤ lo.getD 0) && decide (lo.getD 0 ≤ hi.getD s.size) && decide (hi.getD s.size ≤ s.size) with
    | false => rw [hc] at h; simp at h
    | true =>
    rw [hc] at h; simp only [cond_true, Option.some.injEq, Prod.mk.injEq] at h; obtain ⟨rfl, rfl⟩ := h
    simp only [Bool.and_eq_true, decide_eq_true_eq] at hc
    cases hx with | one _ _ hc' => cases hc' with | d _ _ hd => cases hd with | sc _ _ =>
    have hrun : (Instr.sliceAt t (.string s) low high none).run P w = .ok (.string (s.extract (lo.getD 0).toNat (hi.getD s.size).toNat)) w := by
      unfold Instr.sliceAt
      rw [run_bind (run_underlying hT hund)]
      simp only
      unfold Instr.slice
      rw [run_bind (run_underlying hT hund)]
      simp only [Option.isSome_none, Bool.false_eq_true, if_false]
      rw [run_bind (run_sliceBounds hlo hhi (Nat.le_refl _) hc.1.1 hc.1.2 hc.2)]; rfl
    exact .quiet hR (by rw [run_bind hrun]; rfl) (.one _ _ (.d _ _ (.sc _ rfl))) rfl
  · cases he : T.elem t with
    | none => simp [he] at h
    | some e =>
    cases hn : T.size e with
    | none => simp [he, hn] at h
    | some n =>
    simp only [he, hn] at h
    cases hc : decide (lo.getD 0 = 0) && decide (hi.getD 0 = 0) with
    | false => rw [hc] at h; simp at h
    | true =>
    rw [hc] at h; simp only [cond_true, Option.some.injEq, Prod.mk.injEq] at h; obtain ⟨rfl, rfl⟩ := h
    simp only [Bool.and_eq_true, decide_eq_true_eq] at hc
    cases hx with | one _ _ hc' => cases hc' with | d _ _ hd => cases hd with | sc _ _ =>
    have hrun := run_sliceAt_slice (P := P) (w := w) hT he hn (a := none) (len := 0) (cap := 0) hlo hhi (Nat.le_refl _) (by omega) (by simp only [Int.ofNat_zero, Int.natCast_zero]; omega) (by simp only [Int.natCast_zero]; omega)
    simp only [hc.1, Int.natCast_zero, hc.2, Int.toNat_zero, Nat.sub_self, if_true] at hrun
    exact .quiet hR (by rw [run_bind hrun]; rfl) (.one _ _ (.d _ _ (.sc _ rfl))) rfl
  · rename_i rows
    cases he : T.elem t with
    | none => simp [he] at h
    | some e =>
    cases hn : T.size e with
    | none => simp [he, hn] at h
    | some n =>
    simp only [he, hn] at h
    cases hc : (decide (0 ≤ lo.getD 0) && decide (lo.getD 0 ≤ hi.getD rows.length) && decide (hi.getD rows.length ≤ rows.length)) && rowsOk n rows with
    | false => rw [hc] at h; simp at h
    | true =>
    rw [hc] at h; simp only [cond_true, Option.some.injEq, Prod.mk.injEq] at h; obtain ⟨rfl, rfl⟩ := h
    simp only [Bool.and_eq_true, decide_eq_true_eq] at hc
    obtain ⟨⟨⟨h0, h1⟩, h2⟩, hok⟩ := hc
    cases hx with | one _ _ hc' => cases hc' with | d _ _ hd =>
    have hslice : ∃ a cap, y = .slice a rows.length cap ∧ rows.length ≤ cap := by
      cases hd with
      | nil a cap => exact ⟨a, cap, rfl, by simp⟩
      | list b off cap sz _ vs hcap _ _ _ => exact ⟨_, cap, rfl, hcap⟩
    obtain ⟨a, cap, rfl, hcap⟩ := hslice
    have hrun := run_sliceAt_slice (P := P) (w := w) hT he hn (a := a) hlo hhi hcap h0 h1 (by omega)
    exact .quiet hR (by rw [run_bind hrun]; rfl) (.one _ _ (.d _ _ (hd.part hok (by omega) (by omega)))) rfl
  · rename_i id ep len
    cases ho : look id with
    | none => simp [ho] at h
    | some o =>
    cases o <;> simp only [ho] at h <;> try simp at h
    rename_i ep' m sz rows
    cases he : T.elem t with
    | none => simp [he] at h
    | some e =>
    cases hn : T.size e with
    | none => simp [he, hn] at h
    | some n =>
    simp only [he, hn] at h
    cases hc : (Nat.beq ep ep' && Nat.beq len rows.length) && (decide (0 ≤ lo.getD 0) && decide (lo.getD 0 ≤ hi.getD rows.length) && decide (hi.getD rows.length ≤ rows.length)) && Nat.beq sz n with
    | false => rw [hc] at h; simp at h
    | true =>
    rw [hc] at h; simp only [cond_true] at h
    simp only [Bool.and_eq_true, decide_eq_true_eq, Nat.beq_eq] at hc
    obtain ⟨⟨⟨rfl, rfl⟩, ⟨h0, h1⟩, h2⟩, rfl⟩ := hc
    cases hx with | one _ _ hc' => cases hc' with | arr _ _ _ a cap hs =>
    have ho' := hl _ _ ho
    obtain ⟨⟨hrows, hfr⟩, hob⟩ := hR.obj _ _ ho'
    have hcap : rows.length ≤ cap := by
      rcases hob with ⟨g1, g2⟩ | ⟨b, cap', c, E, g1, _, g3, _⟩
      · subst g2; simp
      · rw [hs] at g1; injection g1 with g1; injection g1 with _ _ g1; omega
    have hrun := run_sliceAt_slice (P := P) (w := w) hT he hn (a := a) hlo hhi hcap h0 h1 (by omega)
    cases cut with
    | none =>
      cases m with
      | true => simp at h
      | false =>
      simp only [cond_false, Option.some.injEq, Prod.mk.injEq] at h; obtain ⟨rfl, rfl⟩ := h
      have hrd := rows_sound (w := w) hR hl (id := id) (ep := ep) (len := rows.length) (rows := rows) (by simp [rowsOf, ho]) hs
      have hok : rowsOk sz rows = true := by
        simp only [rowsOk, List.all_eq_true]; intro r hr; simp [hrows r hr]
      exact .quiet hR (by rw [run_bind hrun]; rfl) (.one _ _ (.d _ _ (hrd.part hok (by omega) (by omega)))) rfl
    | some cm =>
      simp only at h
      cases hc2 : decide (lo.getD 0 = 0) && m with
      | false => rw [hc2] at h; simp at h
      | true =>
      rw [hc2] at h; simp only [cond_true, Option.some.injEq, Prod.mk.injEq] at h; obtain ⟨rfl, rfl⟩ := h
      simp only [Bool.and_eq_true, decide_eq_true_eq] at hc2
      obtain ⟨hl0, rfl⟩ := hc2
      generalize hq : (hi.getD rows.length).toNat = q at *
      have hqle : q ≤ rows.length := by omega
      simp only [hl0, Int.toNat_zero, Nat.sub_zero, Nat.zero_mul] at hrun
      have hadd : (if cap = 0 then a else a.map (·.add 0)) = a := by
        split
        · rfl
        · cases a with
          | none => rfl
          | some a => simp [Addr.add]
      rw [hadd] at hrun
      have htl : (rows.take q).length = q := by simp; omega
      have hlid : id < σ.length := (List.getElem?_eq_some_iff.1 ho').1
      let κ' := κ.arrMore id (ep + 1) q (.slice a q cap) κ.S
      have hsl : κ'.sl id (ep + 1) (rows.take q).length = some (.slice a q cap) := by simp [κ', K.arrMore, htl]
      have hslold : ∀ i e l v, alive σ i = true → κ.sl i e l = some v → κ'.sl i e l = some v := by
        intro i e l v hi hv
        simp only [κ', K.arrMore]
        split
        · rename_i hx; obtain ⟨rfl, rfl, rfl⟩ := hx
          rcases hfr _ _ _ hv with h | ⟨h, _⟩ <;> omega
        · exact hv
      have hfresh : ∀ ep' l v, κ'.sl id ep' l = some v → ep' < ep + 1 ∨ ep' = ep + 1 ∧ l ≤ (rows.take q).length := by
        intro ep' l v hv
        simp only [κ', K.arrMore] at hv
        split at hv
        · rename_i hx; exact .inr ⟨hx.2.1, by rw [hx.2.2, htl]; exact Nat.le_refl _⟩
        · rcases hfr _ _ _ hv with h | ⟨h, _⟩
          · exact .inl (by omega)
          · exact .inl (by omega)
      rcases hob with ⟨g1, g2⟩ | ⟨b, cap', c, E, g1, g2, g3, g4, g5, g6, g7⟩
      · subst g2
        rw [hs] at g1; injection g1 with g1; injection g1 with g1 _ g1'; subst g1; subst g1'
        simp at hqle; subst hqle
        have hup := RS.update (κ' := κ') (w' := w) (o1 := .arr (ep + 1) true sz ([].take 0)) (B := w.heap.size) hR ho' (.inr (Nat.le_refl _)) (fun _ _ h => h) (fun _ _ _ => rfl) (fun _ _ => rfl) hslold
          (fun i hi _ e l => by simp [κ', K.arrMore, hi]) (fun _ _ h => .inl h) (fun _ _ _ => rfl) (Nat.le_refl _) (fun o ho => hR.inside _ _ ho) rfl rfl rfl (by simp)
          ⟨⟨fun r hr => by simp at hr, hfresh⟩, .inl ⟨hsl, rfl⟩⟩ (fun b hb => by simp only [blockOf, hsl] at hb; simp at hb) rfl
        refine ⟨_, w, κ', .inl (by rw [run_bind hrun]; rfl), .one _ _ (.arr _ _ _ _ _ ?_), ?_, hup.1, hup.2⟩
        · simpa using hsl
        · exact alive_iff.2 ⟨_, List.getElem?_set_self hlid, by simp⟩
      · have g1' := g1
        rw [hs] at g1; injection g1 with g1; injection g1 with g1 _ g1''; subst g1; subst g1''
        have hblk : blockOf κ id (.arr ep true sz rows) = some b := by simp [blockOf, g1']
        have hup := RS.update (κ' := κ') (w' := w) (o1 := .arr (ep + 1) true sz (rows.take q)) (B := b) hR ho' (.inl hblk) (fun _ _ h => h) (fun _ _ _ => rfl) (fun _ _ => rfl) hslold
          (fun i hi _ e l => by simp [κ', K.arrMore, hi]) (fun _ _ h => .inl h) (fun _ _ _ => rfl) (Nat.le_refl _) (fun o ho => hR.inside _ _ ho) rfl rfl rfl (by simp)
          ⟨⟨fun r hr => hrows r (List.mem_of_mem_take hr), hfresh⟩, .inr ⟨b, cap, c, E, by rw [hsl, htl], g2, by omega, g4, fun i j row d hi hj => g5 i j row d (by rw [List.getElem?_take] at hi; split at hi <;> simp_all) hj, g6, fun h => by simp at h⟩⟩
          (fun b hb => by simp only [blockOf, hsl, Option.some.injEq] at hb; exact hb.symm) rfl
        refine ⟨_, w, κ', .inl (by rw [run_bind hrun]; rfl), .one _ _ (.arr _ _ _ _ _ ?_), ?_, hup.1, hup.2⟩
        · rw [htl] at hsl; exact hsl
        · exact alive_iff.2 ⟨_, List.getElem?_set_self hlid, by simp⟩
  · simp at h
end
end Go.Am
