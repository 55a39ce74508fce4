/- The abstract machine: append, the second part: the run of the model's append, and what it makes of an array. -/
import Derived.Test.YtfbocpbeogkapaaAmApp
set_option linter.unusedVariables false
set_option linter.unusedSimpArgs false
namespace Go.Am

section
variable {P : Program} {T : Tab} {κ : K} {w : World} {σ : St} {look : Look}

/-- the element's facts -/
structure Elem (T : Tab) (t e : TypeId) (sz wb : Nat) : Prop where
  und : T.und t = some (.slice e)
  size : T.size e = some sz
  bytes : T.bytes e = some (wb + 1)
  zero : ∃ z, T.zero e = some z ∧ z.cells.size = sz ∧ allPlain z.cells.toList = true

theorem run_bytes (hT : T.fits P) {e wb : Nat} (h : T.bytes e = some wb) : ∃ i, (typeInfo e).run P w = .ok i w ∧ i.bytes = wb := by
  unfold Tab.bytes at h
  cases hg : T.get e with
  | none => rw [hg] at h; simp at h
  | some i => rw [hg] at h; simp at h; exact ⟨i, run_typeInfo hT hg, h⟩

def notInt (T : Tab) (t : TypeId) : Prop := ∃ d, T.und t = some d ∧ (∀ k, d ≠ .int k)

theorem run_append_fits (hT : T.fits P) {t e t' ty : TypeId} {sz wb : Nat} (hE : Elem T t e sz wb) (ht' : notInt T t') {base : Option Addr} {sLen sCap : Nat} {y : Value}
    {xs : List (List D)} {vals : List Value} (hs : Src P κ w y xs sz vals) (hfit : sLen + xs.length ≤ sCap) {w' : World}
    (hst : ∀ a, base = some a → (storeCells (a.add (sLen * sz)) vals).run P w = .ok () w') (hno : base = none → w' = w) :
    (Builtin.append_ #[t, t'] ty #[.slice base sLen sCap, y]).run P w = .ok (.slice base (sLen + xs.length) sCap) w' := by
  obtain ⟨d, hd, hdi⟩ := ht'
  unfold Builtin.append_
  simp only [List.getElem?_toArray, List.getElem?_cons_zero, List.getElem?_cons_succ]
  rw [run_bind (run_underlying hT hE.und)]
  simp only
  rw [run_bind (run_sizeOf hT hE.size)]
  rw [run_bind (run_underlying hT hd)]
  refine (run_bind (a := false) (w' := w) ?_).trans ?_
  · cases d <;> first | rfl | exact absurd rfl (hdi _)
  simp only [Bool.false_eq_true, if_false]
  rw [run_bind (hs.len w)]
  rw [if_pos hfit]
  simp only [Bool.not_false, if_true]
  rw [run_bind (hs.cells w rfl)]
  cases base with
  | none => rw [hno rfl]; rfl
  | some a =>
    simp only
    rw [run_bind (hst a rfl)]; rfl

theorem run_append_grows (hT : T.fits P) {t e t' ty : TypeId} {sz wb : Nat} (hE : Elem T t e sz wb) (ht' : notInt T t') {base : Option Addr} {sLen sCap : Nat} {y : Value}
    {xs : List (List D)} {vals olds : List Value} (hs : Src P κ w y xs sz vals) (hfit : sCap < sLen + xs.length) (hroom : (sLen + xs.length) * (wb + 1) ≤ most)
    (hold : ∀ w', w'.heap = w.heap → (Builtin.firstCells sz sLen (.slice base sLen sCap)).run P w' = .ok olds.toArray w') (hol : olds.length = sLen * sz) :
    ∃ cap c w', (Builtin.append_ #[t, t'] ty #[.slice base sLen sCap, y]).run P w = .ok (.slice (some ⟨w.heap.size, 0, none⟩) (sLen + xs.length) cap) w' ∧
      Grew w w' (.cells c e (0, 0)) ∧ sLen + xs.length ≤ cap ∧ c.size = cap * sz ∧ (∀ i, i < (sLen + xs.length) * sz → c[i]? = (olds ++ vals)[i]?) := by
  obtain ⟨d, hd, hdi⟩ := ht'
  obtain ⟨z, hz0, hz1, _⟩ := hE.zero
  obtain ⟨ie, hie, hib⟩ := run_bytes (P := P) (w := w) hT hE.bytes
  have hroom' : (sLen + xs.length) * (wb + 1) ≤ 2 ^ 47 := hroom
  have hneed : sLen + xs.length ≤ 2 ^ 47 := Nat.le_trans (Nat.le_mul_of_pos_right _ (by omega)) hroom'
  generalize hnd : sLen + xs.length = need at *
  let q := Question.appendCap need sCap e
  let cap := q.cut (w.tape w.drawn q)
  have hcap : need ≤ cap := by simp only [cap, q, Question.cut]; omega
  let w1 : World := { w with drawn := w.drawn + 1 }
  have hch : (choose q).run P w = .ok cap w1 := by simp [choose, Sem.run, Question.forced, q, cap, w1]
  obtain ⟨ie1, hie1, hib1⟩ := run_bytes (P := P) (w := w1) hT hE.bytes
  let c : Array Value := olds.toArray ++ vals.toArray ++ Builtin.zeroCells z.cells (cap - need)
  have hzs : (Builtin.zeroCells z.cells (cap - need)).size = (cap - need) * sz := by simp [Builtin.zeroCells, hz1]
  refine ⟨cap, c, alloc w1 (.cells c e), ?_, ⟨alloc_new w1 _, alloc_size w1 _, fun b hb => alloc_old (w := w1) hb, rfl, rfl, rfl⟩, hcap, ?_, ?_⟩
  · unfold Builtin.append_
    simp only [List.getElem?_toArray, List.getElem?_cons_zero, List.getElem?_cons_succ]
    rw [run_bind (run_underlying hT hE.und)]
    simp only
    rw [run_bind (run_sizeOf hT hE.size)]
    rw [run_bind (run_underlying hT hd)]
    refine (run_bind (a := false) (w' := w) ?_).trans ?_
    · cases d <;> first | rfl | exact absurd rfl (hdi _)
    simp only [Bool.false_eq_true, if_false]
    rw [run_bind (hs.len w)]
    rw [hnd]
    rw [if_neg (by omega)]
    simp only [Bool.not_false, if_true, false_or]
    rw [run_bind hie]
    rw [if_neg (by rintro ⟨_, h⟩; rw [hib] at h; omega)]
    rw [run_bind hie]
    rw [if_neg (by
      rw [hib]
      have h1 := nextslicecap_le hfit
      have h2 : Builtin.nextslicecap need sCap * (wb + 1) ≤ 2 * need * (wb + 1) := Nat.mul_le_mul_right _ h1
      rw [Nat.mul_assoc] at h2; omega)]
    rw [run_bind hch]
    rw [run_bind hie1]
    have hroom1 : (askRoom (cap * ie1.bytes)).run P w1 = .ok () w1 := by
      unfold askRoom; split <;> rfl
    rw [run_bind hroom1]
    rw [run_bind (hold w1 rfl)]
    rw [run_bind (hs.cells w1 rfl)]
    rw [run_bind (run_zeroValue hT hz0)]
    rfl
  · simp only [c, Array.size_append, hzs]
    simp only [List.size_toArray, hol, hs.size]
    rw [← Nat.add_mul, hnd, ← Nat.add_mul]
    congr 1; omega
  · intro i hi
    simp only [c]
    have hsz2 : (olds.toArray ++ vals.toArray).size = need * sz := by
      simp only [Array.size_append, List.size_toArray, hol, hs.size]; rw [← Nat.add_mul, hnd]
    rw [Array.getElem?_append, if_pos (by rw [hsz2]; exact hi)]
    simp
end
end Go.Am
