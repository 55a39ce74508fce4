/- A part of a proof: functions of the program, walked over the abstract machine. -/
import Derived.Test.YtfbocpbeogkapaaUses13
set_option linter.unusedVariables false
set_option linter.unusedSimpArgs false
namespace Go.Proofs.Ytfbocpbeogkapaa
open Go Go.Am Go.Proofs
/-! policies one behind the other, and one that uses them all: the document's way -/
def allS : ByteArray := ⟨#[97, 108, 108]⟩
def useOf (p : Pol) : Part := ⟨p.name, ⟨0, 0⟩, []⟩
def allP (l : List Pol) : Pol := ⟨allS, l.map useOf⟩
theorem rParts_congr {g g' : Nat → ByteArray → (List Part × Int) × Nat} : ∀ (ps : List Part) (c : Nat) (out : List Part), (∀ c, ∀ x ∈ ps, g c x.use = g' c x.use) → rPartsF g c out ps = rPartsF g' c out ps
  | [], c, out, _ => rfl
  | x :: r, c, out, h => by
    have hx := h c x (by simp)
    simp only [rPartsF, hx]
    rw [rParts_congr r (c + 1) (out ++ [x]) fun c y hy => h c y (by simp [hy]), rParts_congr r (g' c x.use).2 (out ++ (g' c x.use).1.1) fun c y hy => h c y (by simp [hy])]
theorem lastOf_app (P : Pol) (q : ByteArray) : ∀ (l : List Pol), lastOf (l ++ [P]) q = if P.name = q then some P.parts else lastOf l q
  | [] => by simp [lastOf]
  | x :: r => by
    simp only [List.cons_append, lastOf, lastOf_app P q r]
    by_cases h : P.name = q
    · simp [h]
    · simp [h]
theorem roomR_app (l : List Pol) (P : Pol) (op : List ByteArray) (h : P.name ∈ op) : roomR (l ++ [P]) op = roomR l op := by
  have : op.any (· == P.name) = true := by
    cases hc : op.any (· == P.name) with
    | true => rfl
    | false => exact absurd h (any_eq.1 hc)
  simp [roomR, this]
theorem roomR_le (l : List Pol) (op : List ByteArray) : roomR l op ≤ l.length := by
  simp only [roomR]; exact List.length_filter_le _ _
theorem ref_all {l : List Pol} {P : Pol} (hP : P.name = allS) (hno : ∀ p ∈ l, p.name ≠ allS ∧ ∀ x ∈ p.parts, x.use ≠ allS) : ∀ (n n' : Nat) (op : List ByteArray) (c : Nat) (q : ByteArray), q ≠ allS → roomR (l ++ [P]) (allS :: op) < n → roomR l op < n' →
    refF (l ++ [P]) n (allS :: op) c q = refF l n' op c q
  | 0, _, op, c, q, _, h, _ => by omega
  | _ + 1, 0, op, c, q, _, _, h => by omega
  | n + 1, n' + 1, op, c, q, hq, hn, hn' => by
    have e1 : lastOf (l ++ [P]) q = lastOf l q := by rw [lastOf_app, hP, if_neg (fun h => hq h.symm)]
    have e2 : (allS :: op).any (· == q) = op.any (· == q) := by
      rw [List.any_cons, ba_beq, decide_eq_false (fun h => hq h.symm), Bool.false_or]
    simp only [refF, e1, e2]
    cases h1 : lastOf l q with
    | none => rfl
    | some ps =>
      cases h2 : op.any (· == q) with
      | true => rfl
      | false =>
        simp only [Bool.false_eq_true, if_false]
        refine rParts_congr ps c [] fun c x hx => ?_
        obtain ⟨p, hp, _, he⟩ := lastOf_mem h1
        have a1 := roomR_lt (l := l ++ [P]) (op := allS :: op) (e1.trans h1) (e2.trans h2)
        have a2 := roomR_lt h1 h2
        rw [List.cons_append]
        rw [List.cons_append] at a1
        exact ref_all hP hno n n' (op ++ [q]) c x.use ((hno p hp).2 x (he ▸ hx)) (by omega) (by omega)
theorem dupR_app (P : Pol) : ∀ (r d : List Pol), (∀ p ∈ d, p.name ≠ P.name) → (∀ p ∈ r, p.name ≠ P.name) → dupR d (r ++ [P]) = dupR d r
  | [], d, h, _ => by
    have : d.any (fun y => y.name == P.name) = false := by
      rw [Bool.eq_false_iff, Ne, List.any_eq_true]
      rintro ⟨y, hy, he⟩
      rw [ba_beq, decide_eq_true_eq] at he
      exact h y hy he
    simp [dupR, this]
  | x :: r, d, h, h2 => by
    simp only [List.cons_append, dupR]
    rw [dupR_app P r (d ++ [x]) (fun p hp => by
      rcases List.mem_append.1 hp with hp | hp
      · exact h p hp
      · simp at hp; subst hp; exact h2 _ (by simp)) fun p hp => h2 p (by simp [hp])]
theorem parts_names {g g' : Nat → ByteArray → (List Part × Int) × Nat} : ∀ (l : List Pol) (c : Nat) (out : List Part), (∀ c, ∀ p ∈ l, g c p.name = g' c p.name) → (∀ p ∈ l, p.name ≠ ⟨#[]⟩) → (rPartsF g c out (l.map useOf)).1 = rNamesF g' c out (l.map (·.name))
  | [], c, out, _, _ => rfl
  | x :: r, c, out, h, hne => by
    have e : (useOf x).use = x.name := rfl
    simp only [List.map_cons, rPartsF, rNamesF, e, if_neg (hne x (by simp)), h c x (by simp)]
    split
    · exact parts_names r _ _ (fun c p hp => h c p (by simp [hp])) fun p hp => hne p (by simp [hp])
    · rfl
theorem rNames_err {g : Nat → ByteArray → (List Part × Int) × Nat} : ∀ (l : List ByteArray) (c : Nat) (out : List Part), (rNamesF g c out l).2 ≠ 0 → (rNamesF g c out l).1 = []
  | [], c, out, h => absurd rfl h
  | x :: r, c, out, h => by
    simp only [rNamesF] at h ⊢
    split
    · rename_i hz; rw [if_pos hz] at h; exact rNames_err r _ _ h
    · rfl
theorem one_same (l : List Pol) (hno : ∀ p ∈ l, (p.name ≠ allS ∧ p.name ≠ ⟨#[]⟩) ∧ ∀ x ∈ p.parts, x.use ≠ allS) : flatF (l ++ [allP l]) [allS] = flatF l (l.map (·.name)) := by
  rw [flat_same, flat_same]
  unfold refFlat
  rw [dupR_app (allP l) l [] (by intro p hp; simp at hp) fun p hp => (hno p hp).1.1]
  cases hd : dupR [] l with
  | true => rfl
  | false =>
    simp only [Bool.false_eq_true, if_false]
    have e1 : lastOf (l ++ [allP l]) allS = some (l.map useOf) := by rw [lastOf_app]; exact if_pos rfl
    have e2 : refF (l ++ [allP l]) ((l ++ [allP l]).length + 1) [] 0 allS = rPartsF (refF (l ++ [allP l]) (l ++ [allP l]).length [allS]) 0 [] (l.map useOf) := by
      simp only [refF, e1]; rfl
    have e3 := parts_names (g := refF (l ++ [allP l]) (l ++ [allP l]).length [allS]) (g' := refF l (l.length + 1) []) l 0 [] (fun c p hp =>
      ref_all (P := allP l) rfl (fun p hp => ⟨(hno p hp).1.1, (hno p hp).2⟩) _ _ [] c p.name (hno p hp).1.1 (by
        rw [roomR_app l (allP l) [allS] (by simp [allP])]
        have := roomR_le l [allS]
        rw [List.length_append, List.length_singleton]; omega) (by have := roomR_le l []; omega)) fun p hp => (hno p hp).1.2
    rw [← e2] at e3
    simp only [rNamesF, List.nil_append]
    have e4 := rNames_err (g := refF l (l.length + 1) []) (l.map (·.name)) 0 []
    rw [← e3] at e4 ⊢
    generalize (refF (l ++ [allP l]) ((l ++ [allP l]).length + 1) [] 0 allS).1 = q at e4 ⊢
    by_cases hz : q.2 = 0
    · rw [if_pos hz, ← hz]
    · rw [if_neg hz, ← e4 hz]
end Go.Proofs.Ytfbocpbeogkapaa
