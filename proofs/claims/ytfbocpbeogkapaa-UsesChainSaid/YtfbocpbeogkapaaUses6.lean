/- A part of a proof: functions of the program, walked over the abstract machine. -/
import Derived.Test.YtfbocpbeogkapaaUses5
set_option linter.unusedVariables false
set_option linter.unusedSimpArgs false
namespace Go.Proofs.Ytfbocpbeogkapaa
open Go Go.Am Go.Proofs
attribute [local irreducible] W WL DL WO RoundEnd
set_option maxRecDepth 10000
set_option maxHeartbeats 4000000
def Fl.ok (s : Fl) : Prop := s.out.length ≤ 500 ∧ ∀ p ∈ s.known, p.2.length ≤ 500
def room (m : AL (List Part)) (w : AL Unit) : Nat := ((m.map (·.1)).filter fun k => (fk k w 0).isNone).length
theorem addF_good {s : Fl} {l : List Part} (h : s.ok) (h0 : (addF s l).1 = 0) : (addF s l).2.ok ∧ (addF s l).2.within = s.within ∧ s.out.length ≤ (addF s l).2.out.length := by
  refine ⟨⟨?_, h.2⟩, rfl, by simp [addF]⟩
  simp only [addF, addE] at h0 ⊢
  split at h0
  · simp at h0
  · omega
theorem partsF_good {g : Fl → ByteArray → Int × Fl} (hg : ∀ s name, s.ok → (g s name).1 = 0 → (g s name).2.ok ∧ (g s name).2.within = s.within ∧ s.out.length ≤ (g s name).2.out.length) :
    ∀ (l : List Part) (s : Fl), s.ok → (partsF g s l).1 = 0 → (partsF g s l).2.ok ∧ (partsF g s l).2.within = s.within ∧ s.out.length ≤ (partsF g s l).2.out.length
  | [], s, h, _ => ⟨h, rfl, Nat.le_refl _⟩
  | x :: r, s, h, h0 => by
    have h1 : (if x.use = ⟨#[]⟩ then addF s [x] else g s x.use).1 = 0 → (if x.use = ⟨#[]⟩ then addF s [x] else g s x.use).2.ok ∧ (if x.use = ⟨#[]⟩ then addF s [x] else g s x.use).2.within = s.within ∧ s.out.length ≤ (if x.use = ⟨#[]⟩ then addF s [x] else g s x.use).2.out.length := by
      by_cases he : x.use = ⟨#[]⟩
      · simp only [if_pos he]; exact addF_good h
      · simp only [if_neg he]; exact hg _ _ h
    simp only [partsF] at h0 ⊢
    generalize (if x.use = ⟨#[]⟩ then addF s [x] else g s x.use) = q at h0 h1 ⊢
    by_cases hz : q.1 = 0
    · rw [if_pos hz] at h0 ⊢
      obtain ⟨h2, h3, h3'⟩ := h1 hz
      have h4 := partsF_good hg r _ h2 h0
      exact ⟨h4.1, by rw [h4.2.1, h3], Nat.le_trans h3' h4.2.2⟩
    · rw [if_neg hz] at h0; exact absurd h0 hz
theorem delK_last {α : Type} {k : ByteArray} {v : α} {l : AL α} (h : fk k l 0 = none) : delK (l ++ [(k, v)]) k = l := by
  have h1 := fk_append (m := [(k, v)]) (i := 0) (fk_none.1 h)
  simp only [delK, h1, fk, if_true, Nat.zero_add]
  rw [List.eraseIdx_append_of_length_le (Nat.le_refl _)]; simp
theorem setK_mem {α : Type} {k : ByteArray} {v : α} {l : AL α} {p : ByteArray × α} (h : p ∈ setK l k v) : p ∈ l ∨ p = (k, v) := by
  simp only [setK] at h
  split at h
  · exact List.mem_or_eq_of_mem_set h
  · simpa using h
theorem polF_good (m : AL (List Part)) : ∀ (n : Nat) (s : Fl) (name : ByteArray), s.ok → (polF m n s name).1 = 0 → (polF m n s name).2.ok ∧ (polF m n s name).2.within = s.within ∧ s.out.length ≤ (polF m n s name).2.out.length
  | 0, s, _, h, _ => ⟨h, rfl, Nat.le_refl _⟩
  | n + 1, s, name, h, h0 => by
    simp only [polF] at h0 ⊢
    split at h0
    · simp at h0
    · split at h0
      · simp at h0
      · split at h0
        · exact addF_good h h0
        · rename_i hw _ hk
          split at h0
          · rename_i hq
            rw [if_pos hq]
            have h1 := partsF_good (polF_good m n) _ ({ s with within := s.within ++ [(name, ())] }) h hq
            refine ⟨⟨h1.1.1, fun p hp => ?_⟩, by simp only; rw [h1.2.1]; exact delK_last hw, h1.2.2⟩
            rcases setK_mem hp with hp | rfl
            · exact h1.1.2 p hp
            · have := h1.1.1; simp; omega
          · rename_i hq; exact absurd h0 hq
theorem room_lt {m : AL (List Part)} {w : AL Unit} {name : ByteArray} {x : Nat × List Part} (h1 : fk name m 0 = some x) (h2 : fk name w 0 = none) : room m (w ++ [(name, ())]) < room m w := by
  have hm : name ∈ m.map (·.1) := Classical.byContradiction fun hn => by rw [fk_none.2 hn] at h1; simp at h1
  have key : ∀ k, (fk k (w ++ [(name, ())]) 0).isNone = (!decide (k = name) && (fk k w 0).isNone) := by
    intro k
    rw [Bool.eq_iff_iff]
    simp only [Option.isNone_iff_eq_none, Bool.and_eq_true, fk_none]
    simp [and_comm]
  simp only [room, key, ← List.filter_filter]
  rw [List.length_filter_lt_length_iff_exists]
  refine ⟨name, List.mem_filter.2 ⟨hm, by rw [h2]; rfl⟩, by simp⟩
end Go.Proofs.Ytfbocpbeogkapaa
