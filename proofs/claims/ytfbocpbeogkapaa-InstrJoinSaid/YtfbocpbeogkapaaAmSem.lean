/- The abstract machine: runs of the model's small operations. -/
import Derived.Test.YtfbocpbeogkapaaAmRel
import Derived.Laws.Sem
set_option linter.unusedVariables false
set_option linter.unusedSimpArgs false
namespace Go.Am

section
variable {P : Program} {w : World} {α β : Type}

theorem run_pure (a : α) : (pure a : Sem α).run P w = .ok a w := rfl
theorem run_bind {s : Sem α} {f : α → Sem β} {a : α} {w' : World} (h : s.run P w = .ok a w') : (s >>= f).run P w = (f a).run P w' := by
  rw [Sem.run_bind, h]; rfl

theorem pureRun_sound {s : Sem α} {a : α} (h : pureRun P s = some a) : s.run P w = .ok a w := by
  induction s with
  | pure x => simp only [pureRun, Option.some.injEq] at h; subst h; rfl
  | program k ih => simp only [pureRun] at h; simp only [Sem.run]; exact ih _ h
  | _ => simp [pureRun] at h
end

/-! the table of types -/
section
variable {P : Program} {T : Tab} {w : World}
theorem Tab.get_sound (h : T.fits P) {t : Nat} {i : TypeInfo} (hg : T.get t = some i) : P.info? t = some i := by
  induction T with
  | leaf => simp [Tab.get] at hg
  | eqs l t ih => exact ih h.2 hg
  | node l k j r ihl ihr =>
    obtain ⟨h1, h2, h3⟩ := h
    simp only [Tab.get] at hg
    cases hk : Nat.beq k t with
    | true =>
      rw [hk] at hg; simp only [cond_true, Option.some.injEq] at hg
      have : k = t := by simpa using hk
      subst this; subst hg; exact h2
    | false =>
      rw [hk] at hg; simp only [cond_false] at hg
      cases hb : Nat.ble t k with
      | true => rw [hb] at hg; exact ihl h1 hg
      | false => rw [hb] at hg; exact ihr h3 hg

theorem Tab.und_sound (h : T.fits P) {t : Nat} {d : TypeDesc} (hd : T.und t = some d) : P.underlying t = some d := by
  unfold Tab.und at hd
  unfold Program.underlying
  cases hg : T.get t with
  | none => rw [hg] at hd; simp at hd
  | some i =>
    rw [hg] at hd
    rw [T.get_sound h hg]
    obtain ⟨desc, str, size, bytes, hp, al, fal, zero, comp, ms⟩ := i
    cases desc <;> simp only at hd ⊢ <;> try exact hd
    rename_i nm u
    cases hu : T.get u with
    | none => rw [hu] at hd; simp at hd
    | some i => rw [hu] at hd; rw [T.get_sound h hu]; exact hd

theorem run_program : (program : Sem Program).run P w = .ok P w := rfl
theorem run_typeInfo (h : T.fits P) {t : Nat} {i : TypeInfo} (hg : T.get t = some i) : (typeInfo t).run P w = .ok i w := by
  unfold typeInfo
  rw [run_bind run_program, T.get_sound h hg]; rfl
theorem run_underlying (h : T.fits P) {t : Nat} {d : TypeDesc} (hd : T.und t = some d) : (underlying t).run P w = .ok d w := by
  unfold underlying
  rw [run_bind run_program, T.und_sound h hd]; rfl
theorem run_sizeOf (h : T.fits P) {t n : Nat} (hn : T.size t = some n) : (sizeOf t).run P w = .ok n w := by
  unfold Tab.size at hn
  cases hg : T.get t with
  | none => rw [hg] at hn; simp at hn
  | some i =>
    rw [hg] at hn; simp only [Option.map_some, Option.some.injEq] at hn
    unfold sizeOf
    rw [run_bind (run_typeInfo h hg)]; subst hn; rfl
theorem run_zeroValue (h : T.fits P) {t : Nat} {z : Value} (hz : T.zero t = some z) : (zeroValue t).run P w = .ok z w := by
  unfold Tab.zero at hz
  cases hg : T.get t with
  | none => rw [hg] at hz; simp at hz
  | some i =>
    rw [hg] at hz; simp only [Option.bind_some] at hz
    unfold zeroValue
    rw [run_bind (run_typeInfo h hg), hz]; rfl
theorem run_isAgg (h : T.fits P) {t : Nat} {g : Bool} (hg : T.agg t = some g) : (isAgg t).run P w = .ok g w := by
  unfold Tab.agg at hg
  cases hd : T.und t with
  | none => rw [hd] at hg; simp at hg
  | some d =>
    rw [hd] at hg
    unfold isAgg
    rw [run_bind (run_underlying h hd)]
    cases d <;> simp at hg <;> subst hg <;> rfl
end

/-! cells -/
section
variable {P : Program} {w : World}
theorem run_load {a : Addr} {v : Value} (h : w.cell? a = some v) : (load a).run P w = .ok v w := by
  simp only [load, Sem.run, h]
theorem addr_add (b o n : Nat) : (⟨b, o, none⟩ : Addr).add n = ⟨b, o + n, none⟩ := by
  unfold Addr.add; split
  · rename_i h; subst h; rfl
  · rfl
theorem run_loadCellsFrom (b o : Nat) : ∀ (n i : Nat) (acc : Array Value) (vs : List Value), vs.length = n →
    (∀ (j : Nat) (v : Value), vs[j]? = some v → cellAt w b (o + i + j) = some v) →
    (loadCellsFrom ⟨b, o, none⟩ i n acc).run P w = .ok (acc ++ vs.toArray) w
  | 0, i, acc, vs, hl, _ => by
    have : vs = [] := List.length_eq_zero_iff.1 hl
    subst this; simp [loadCellsFrom, pure]
  | n + 1, i, acc, v :: vs, hl, h => by
    unfold loadCellsFrom
    rw [addr_add]
    have h0 : w.cell? ⟨b, o + i, none⟩ = some v := by have := h 0 v rfl; simpa [cellAt] using this
    rw [run_bind (run_load h0), run_loadCellsFrom b o n (i + 1) (acc.push v) vs (by simpa using hl) (fun j u hj => by
      have := h (j + 1) u (by simpa using hj)
      rw [show o + (i + 1) + j = o + i + (j + 1) from by omega]; exact this)]
    simp
  | n + 1, i, acc, [], hl, h => by simp at hl
theorem run_loadCells (b o n : Nat) (vs : List Value) (hl : vs.length = n) (h : ∀ (j : Nat) (v : Value), vs[j]? = some v → cellAt w b (o + j) = some v) :
    (loadCells ⟨b, o, none⟩ n).run P w = .ok vs.toArray w := by
  unfold loadCells
  rw [run_loadCellsFrom b o n 0 #[] vs hl (by simpa using h)]; simp

theorem run_store {a : Addr} {v u : Value} (h : w.cell? a = some u) (hf : w.frozen? a = false) (hv : ∀ vs, v ≠ .agg vs) (hv' : ∀ vs, v ≠ .tuple vs) :
    (store a v).run P w = .ok () (w.setCell a v) := by
  unfold store
  cases v <;> first
    | exact absurd rfl (hv _)
    | exact absurd rfl (hv' _)
    | simp [Sem.run, h, hf]
end

end Go.Am
