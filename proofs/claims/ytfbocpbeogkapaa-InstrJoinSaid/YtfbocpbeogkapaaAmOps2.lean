/- The abstract machine: soundness of the silent operations and of the reads. -/
import Derived.Test.YtfbocpbeogkapaaAmApp3
import Derived.Laws.BytesString
set_option linter.unusedVariables false
set_option linter.unusedSimpArgs false
namespace Go.Am

section
variable {P : Program} {T : Tab} {κ : K} {w : World} {σ : St} {look : Look}

theorem field_of {t : TypeId} {f : Nat} {g : Field} (h : T.field t f = some g) : ∃ fs, T.und t = some (.struct fs) ∧ fs[f]? = some g := by
  unfold Tab.field at h
  split at h
  · rename_i fs hfs; exact ⟨fs, hfs, by simpa using h⟩
  · simp at h

theorem fieldAddr_sound (hT : T.fits P) {t : TypeId} {f : Nat} {x v : V} {y : Value} {L : Nat → Bool} (h : fieldAddr T t f x = some v) (hx : RV κ w x y) (hu : x.under L = true) :
    ∃ z, (Instr.fieldAt t y f).run P w = .ok z w ∧ RV κ w v z ∧ v.under L = true := by
  unfold fieldAddr at h
  cases hg : T.field t f with
  | none => simp [hg] at h
  | some g =>
  simp only [hg] at h
  cases hn : T.size g.type with
  | none => simp [hn] at h
  | some n =>
  cases n with
  | zero => simp [hn] at h
  | succ n =>
  simp only [hn] at h
  obtain ⟨fs, hfs, hf⟩ := field_of hg
  have hrun : ∀ b o, (Instr.fieldAt t (.pointer (some ⟨b, o, none⟩)) f).run P w = .ok (.pointer (some ⟨b, o + g.offset, none⟩)) w := by
    intro b o
    unfold Instr.fieldAt
    rw [run_bind (run_underlying hT hfs)]
    simp only [hf]
    refine (run_bind (a := (⟨b, o, none⟩ : Addr)) rfl).trans ?_
    have : (fieldPlace ⟨b, o, none⟩ g).run P w = .ok ⟨b, o + g.offset, none⟩ w := by
      unfold fieldPlace
      rw [run_bind (run_sizeOf hT hn), if_neg (by omega), addr_add]; rfl
    rw [run_bind this]; rfl
  split at h
  · rename_i id o
    injection h with h; subst h
    cases hx with | one _ _ hc => cases hc with | ptr _ _ b hb => exact ⟨_, hrun b o, .one _ _ (.ptr _ _ _ hb), hu⟩
  · injection h with h; subst h
    cases hx with | one _ _ hc => cases hc with | rptr _ b o hd =>
    refine ⟨_, hrun b o, .one _ _ (.rptr _ _ _ fun j d hj => ?_), rfl⟩
    have := hd (g.offset + j) d (by simpa using hj)
    rw [← Nat.add_assoc] at this; exact this
  · rename_i id ep len sz idx o
    injection h with h; subst h
    cases hx with | one _ _ hc => cases hc with | eptr _ _ _ _ _ _ b cap hs =>
    refine ⟨_, hrun b _, ?_, hu⟩
    rw [Nat.add_assoc]; exact .one _ _ (.eptr _ _ _ _ _ _ _ cap hs)
  · simp at h

theorem run_part (hT : T.fits P) {t n : Nat} {g : Bool} (hn : T.size t = some n) (hg : T.agg t = some g) {cs : Array Value} {off : Nat} (hle : off + n ≤ cs.size) (h1 : g = false → n = 1) :
    (part t cs off).run P w = .ok (ofMk g ((cs.toList.drop off).take n)) w := by
  unfold part
  rw [run_bind (run_isAgg hT hg)]
  cases g with
  | true =>
    simp only [if_true]
    rw [run_bind (run_sizeOf hT hn)]
    simp only [ofMk, if_true]
    have : cs.extract off (off + n) = ((cs.toList.drop off).take n).toArray := by
      apply Array.ext'
      simp only [Array.toList_extract, List.extract_eq_take_drop]
      congr 1; omega
    rw [this]; rfl
  | false =>
    have := h1 rfl; subst this
    simp only [Bool.false_eq_true, if_false]
    have hlt : off < cs.size := by omega
    simp only [Array.getElem?_eq_getElem hlt]
    have : (cs.toList.drop off).take 1 = [cs[off]] := by
      rw [List.drop_eq_getElem_cons (by simpa using hlt)]; simp
    rw [this]; rfl

theorem fieldOf_sound (hT : T.fits P) {t : TypeId} {f : Nat} {x v : V} {y : Value} {L : Nat → Bool} (h : fieldOf T t f x = some v) (hx : RV κ w x y) (hu : x.under L = true) :
    ∃ z, (Instr.field t y f).run P w = .ok z w ∧ RV κ w v z ∧ v.under L = true := by
  unfold fieldOf at h
  cases hg : T.field t f with
  | none => simp [hg] at h
  | some g =>
  simp only [hg] at h
  split at h
  · rename_i n a cs hn ha
    obtain ⟨fs, hfs, hf⟩ := field_of hg
    cases hle : Nat.ble (g.offset + n) cs.length with
    | false => rw [hle] at h; simp at h
    | true =>
    rw [hle] at h; simp only [cond_true] at h
    have hle' := Nat.le_of_ble_eq_true hle
    cases hx with | agg _ vs hc =>
    have hcs := (hc.drop g.offset).take n
    refine ⟨_, ?_, mk_sound h hcs, mk_under h (underAll_take _ (underAll_drop _ hu))⟩
    unfold Instr.field
    rw [run_bind (run_underlying hT hfs)]
    simp only [hf]
    refine (run_bind (a := vs) rfl).trans ?_
    refine run_part hT hn ha ?_ ?_
    · have := hc.1; simp at this; omega
    · intro hf; subst hf
      have := mk_false h; simp at this; omega
  · simp at h

theorem run_asIntOf (k : IntKind) (i : Int) : (asIntOf (.int k i)).run P w = .ok (k, i) w := rfl

theorem indexAddr_sound (hT : T.fits P) (hR : RS κ w σ) (hl : Sees σ look) {t : TypeId} {x v : V} {y : Value} {k : IntKind} {i : Int} (h : indexAddr T t x i look = some v)
    (hx : RV κ w x y) (hu : x.under (alive σ) = true) : ∃ z, (Instr.indexAt t y (.int k i)).run P w = .ok z w ∧ RV κ w v z ∧ v.under (alive σ) = true := by
  unfold indexAddr at h
  split at h
  · rename_i e he
    cases hn : T.size e with
    | none => simp [hn] at h
    | some n =>
    simp only [hn] at h
    cases hi : decide (0 ≤ i) with
    | false => rw [hi] at h; simp at h
    | true =>
    rw [hi] at h; simp only [cond_true] at h
    have hi' : 0 ≤ i := of_decide_eq_true hi
    have hrun : ∀ b o len cap, i < (len : Nat) → (Instr.indexAt t (.slice (some ⟨b, o, none⟩) len cap) (.int k i)).run P w = .ok (.pointer (some ⟨b, o + i.toNat * n, none⟩)) w := by
      intro b o len cap hlt
      unfold Instr.indexAt
      rw [run_bind (run_asIntOf k i)]
      simp only
      rw [run_bind (run_underlying hT he)]
      simp only
      refine (run_bind (a := (some (⟨b, o, none⟩ : Addr), len, e)) rfl).trans ?_
      simp only
      rw [run_bind (run_underlying hT he)]
      simp only
      rw [if_pos ⟨hi', hlt⟩, run_bind (run_sizeOf hT hn), addr_add]; rfl
    split at h
    · rename_i rows
      cases hrow : rows[i.toNat]? with
      | none => simp [hrow] at h
      | some row =>
      simp only [hrow] at h
      cases hrl : Nat.beq row.length n with
      | false => rw [hrl] at h; simp at h
      | true =>
      rw [hrl] at h; simp only [cond_true, Option.some.injEq] at h; subst h
      have hrl' : row.length = n := by simpa using hrl
      have hlt : i.toNat < rows.length := (List.getElem?_eq_some_iff.1 hrow).1
      cases hx with | one _ _ hc => cases hc with | d _ _ hd =>
      cases hd with
      | nil a cap => simp at hlt
      | list b off cap sz _ vs hcap hr hcell hrel =>
        have hsz : sz = n := by rw [← hr _ row hrow, hrl']
        subst hsz
        refine ⟨_, hrun b off _ cap (by omega), .one _ _ (.rptr _ _ _ fun j d hj => ?_), rfl⟩
        obtain ⟨h1, h2⟩ := hcell i.toNat j row d hrow hj
        rw [Nat.add_assoc]
        exact ⟨h1, _, h2, hrel i.toNat j row d hrow hj⟩
    · rename_i id ep len
      cases ho : look id with
      | none => simp [ho] at h
      | some o =>
      cases o <;> simp only [ho] at h <;> try simp at h
      rename_i ep' m sz rows
      cases hc1 : (Nat.beq ep ep' && Nat.beq len rows.length) && Nat.beq sz n with
      | false => rw [hc1] at h; simp at h
      | true =>
      rw [hc1] at h; simp only [cond_true] at h
      simp only [Bool.and_eq_true, Nat.beq_eq] at hc1
      obtain ⟨⟨rfl, rfl⟩, rfl⟩ := hc1
      cases hrow : rows[i.toNat]? with
      | none => simp [hrow] at h
      | some row =>
      simp only [hrow] at h
      have hlt : i.toNat < rows.length := (List.getElem?_eq_some_iff.1 hrow).1
      have ho' := hl _ _ ho
      obtain ⟨⟨hsz, _⟩, hob⟩ := hR.obj _ _ ho'
      cases hx with | one _ _ hc => cases hc with | arr _ _ _ a cap hs =>
      rcases hob with ⟨h0, h1⟩ | ⟨b, cap', c, E, h0, hh, h1, h2, h3, h6, h7⟩
      · subst h1; simp at hlt
      have h00 := h0
      rw [hs] at h0; injection h0 with h0; injection h0 with h0 _ h0'; subst h0; subst h0'
      cases m with
      | true =>
        simp only [cond_true, Option.some.injEq] at h; subst h
        refine ⟨_, hrun b 0 _ cap (by omega), ?_, hu⟩
        rw [Nat.zero_add]
        exact .one _ _ (by simpa using RC.eptr (κ := κ) (w := w) id ep rows.length sz i.toNat 0 b cap h00)
      | false =>
        simp only [cond_false, Option.some.injEq] at h; subst h
        refine ⟨_, hrun b 0 _ cap (by omega), .one _ _ (.rptr _ _ _ fun j d hj => ?_), rfl⟩
        obtain ⟨v, hv, hd⟩ := h3 i.toNat j row d hrow hj
        have hjl : j < sz := by rw [← hsz row (List.mem_of_getElem? hrow)]; exact (List.getElem?_eq_some_iff.1 hj).1
        have hmul : (i.toNat + 1) * sz ≤ rows.length * sz := Nat.mul_le_mul_right _ hlt
        rw [Nat.add_mul] at hmul
        rw [Nat.zero_add]
        exact ⟨(h7 rfl _).2 (by omega), v, by rw [cells_of_block hh]; exact hv, hd⟩
    · simp at h
  · rename_i cnt e he
    cases hn : T.size e with
    | none => simp [hn] at h
    | some n =>
    simp only [hn] at h
    cases hi : decide (0 ≤ i) && decide (i < cnt) with
    | false => rw [hi] at h; simp at h
    | true =>
    rw [hi] at h; simp only [cond_true] at h
    simp only [Bool.and_eq_true, decide_eq_true_eq] at hi
    have hrun : ∀ b o, (Instr.indexAt t (.pointer (some ⟨b, o, none⟩)) (.int k i)).run P w = .ok (.pointer (some ⟨b, o + i.toNat * n, none⟩)) w := by
      intro b o
      unfold Instr.indexAt
      rw [run_bind (run_asIntOf k i)]
      simp only
      rw [run_bind (run_underlying hT he)]
      simp only
      refine (run_bind (a := (some (⟨b, o, none⟩ : Addr), cnt, e)) rfl).trans ?_
      simp only
      rw [run_bind (run_underlying hT he)]
      simp only
      rw [if_pos hi, run_bind (run_sizeOf hT hn), addr_add]; rfl
    split at h
    · rename_i id o
      injection h with h; subst h
      cases hx with | one _ _ hc => cases hc with | ptr _ _ b hb => exact ⟨_, hrun b o, .one _ _ (.ptr _ _ _ hb), hu⟩
    · injection h with h; subst h
      cases hx with | one _ _ hc => cases hc with | rptr _ b o hd =>
      refine ⟨_, hrun b o, .one _ _ (.rptr _ _ _ fun j d hj => ?_), rfl⟩
      have := hd (i.toNat * n + j) d (by simpa using hj)
      rw [← Nat.add_assoc] at this; exact this
    · rename_i id ep len sz idx o
      injection h with h; subst h
      cases hx with | one _ _ hc => cases hc with | eptr _ _ _ _ _ _ b cap hs =>
      refine ⟨_, hrun b _, ?_, hu⟩
      rw [Nat.add_assoc]; exact .one _ _ (.eptr _ _ _ _ _ _ _ cap hs)
    · simp at h
  · simp at h

theorem indexOf_sound (hT : T.fits P) {t : TypeId} {x v : V} {y : Value} {k : IntKind} {i : Int} {L : Nat → Bool} (h : indexOf T t x i = some v) (hx : RV κ w x y) (hu : x.under L = true) :
    ∃ z, (Instr.index t y (.int k i)).run P w = .ok z w ∧ RV κ w v z ∧ v.under L = true := by
  unfold indexOf at h
  split at h
  · rename_i cnt e he
    split at h
    · rename_i n a cs hn ha
      cases hle : (decide (0 ≤ i) && decide (i < cnt)) && Nat.ble (i.toNat * n + n) cs.length with
      | false => rw [hle] at h; simp at h
      | true =>
      rw [hle] at h; simp only [cond_true] at h
      simp only [Bool.and_eq_true, decide_eq_true_eq] at hle
      have hle' := Nat.le_of_ble_eq_true hle.2
      cases hx with | agg _ vs hc =>
      have hcs := (hc.drop (i.toNat * n)).take n
      refine ⟨_, ?_, mk_sound h hcs, mk_under h (underAll_take _ (underAll_drop _ hu))⟩
      unfold Instr.index
      rw [run_bind (run_asIntOf k i)]
      simp only
      rw [run_bind (run_underlying hT he)]
      simp only
      rw [if_pos hle.1, run_bind (run_sizeOf hT hn)]
      refine run_part hT hn ha ?_ ?_
      · have := hc.1; simp at this; omega
      · intro hf; subst hf
        have := mk_false h; simp at this; omega
    · simp at h
  · rename_i he
    split at h
    · rename_i s
      cases hi : decide (0 ≤ i) with
      | false => rw [hi] at h; simp at h
      | true =>
      rw [hi] at h; simp only [cond_true] at h
      have hi' : 0 ≤ i := of_decide_eq_true hi
      cases hb : s.data.toList[i.toNat]? with
      | none => simp [hb] at h
      | some b =>
      simp only [hb, Option.some.injEq] at h; subst h
      cases hx with | one _ _ hc => cases hc with | d _ _ hd => cases hd with | sc _ _ =>
      refine ⟨.int .u8 b.toNat, ?_, .one _ _ (.d _ _ (.sc _ rfl)), rfl⟩
      unfold Instr.index
      rw [run_bind (run_asIntOf k i)]
      simp only
      rw [run_bind (run_underlying hT he)]
      simp only
      rw [if_pos hi']
      have : s[i.toNat]? = some b := by
        obtain ⟨h1, h2⟩ := List.getElem?_eq_some_iff.1 hb
        have h1' : i.toNat < s.size := by simpa using h1
        rw [getElem?_pos s i.toNat h1']
        have : s[i.toNat] = s.data.toList[i.toNat] := by simp; rfl
        rw [this, h2]
      rw [this]; rfl
    · simp at h
  · simp at h
end
end Go.Am
