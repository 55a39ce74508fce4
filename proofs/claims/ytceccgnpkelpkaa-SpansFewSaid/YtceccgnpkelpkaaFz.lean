/- The abstract machine: a written array begins to be data, at a function's end (nobody writes it any more). -/
import Derived.Test.YtceccgnpkelpkaaTypes
set_option linter.unusedVariables false
set_option linter.unusedSimpArgs false
namespace Go.Am
/-- nobody writes an array any more -/
def freezeSt (id : Nat) (σ : St) : St :=
  match σ[id]? with
  | some (.arr ep true sz rows) => σ.set id (.arr ep false sz rows)
  | _ => σ
theorem freeze_ghost {N : Nat} {κ : K} {w : World} {e : Env} {σ : St} {a : Act} (id : Nat) (hs : SR N κ w e σ a) : ∃ κ', Evo κ w σ κ' w (freezeSt id σ) ∧ SR N κ' w e (freezeSt id σ) a := by
  unfold freezeSt
  split
  case h_2 => exact ⟨κ, .refl, hs⟩
  rename_i ep sz rows h1
  have hid : id < σ.length := (List.getElem?_eq_some_iff.1 h1).1
  obtain ⟨⟨q1, q2⟩, q3⟩ := hs.rs.obj id _ h1
  have key : ∃ κ' : K, κ'.at_ = κ.at_ ∧ κ'.sl = κ.sl ∧ (∀ b o, κ.S b o → κ'.S b o) ∧ (∀ b o, κ'.S b o → κ.S b o ∨ blockOf κ id (.arr ep true sz rows) = some b) ∧ (∀ b o, κ'.S b o → b < w.heap.size) ∧ RO κ' w id (.arr ep false sz rows) := by
    rcases q3 with ⟨g1, g2⟩ | ⟨b, cap, c, T, g1, g2, g3, g4, g5, g6, g7⟩
    · exact ⟨κ, rfl, rfl, fun _ _ h => h, fun _ _ h => .inl h, hs.rs.inside, ⟨q1, q2⟩, .inl ⟨g1, g2⟩⟩
    · have hmono : ∀ b' o, κ.S b' o → (κ.S b' o ∨ (b' = b ∧ o < rows.length * sz)) := fun _ _ h => .inl h
      refine ⟨{ κ with S := fun b' o => κ.S b' o ∨ (b' = b ∧ o < rows.length * sz) }, rfl, rfl, hmono, ?_, ?_, ⟨q1, q2⟩, .inr ⟨b, cap, c, T, g1, g2, g3, g4, ?_, ?_, ?_⟩⟩
      · rintro b' o (h | ⟨rfl, _⟩)
        · exact .inl h
        · exact .inr (by simp [blockOf, g1])
      · rintro b' o (h | ⟨rfl, _⟩)
        · exact hs.rs.inside _ _ h
        · exact (Array.getElem?_eq_some_iff.1 g2).1
      · intro i j row d a1 a2
        obtain ⟨v, b1, b2⟩ := g5 i j row d a1 a2
        exact ⟨v, b1, b2.mono hmono fun _ _ _ => rfl⟩
      · intro h; exact absurd h (by simp)
      · intro _ o
        constructor
        · rintro (h | ⟨_, h⟩)
          · exact absurd h (g6 rfl o)
          · exact h
        · intro h; exact .inr ⟨rfl, h⟩
  obtain ⟨κ', k1, k2, k3, k4, k5, k6⟩ := key
  have hst : Stays κ w κ' w (alive σ) := ⟨k3, fun _ _ _ => rfl, fun _ _ => by rw [k1], fun _ _ _ _ _ h => by rw [k2]; exact h⟩
  have hblk : ∀ i o, blockOf κ' i o = blockOf κ i o := by intro i o; cases o <;> simp only [blockOf, k1, k2]
  have hget : ∀ i o, (σ.set id (.arr ep false sz rows))[i]? = some o → ∃ o', σ[i]? = some o' ∧ blockOf κ i o = blockOf κ i o' ∧ ((i = id ∧ o = .arr ep false sz rows) ∨ (i ≠ id ∧ o = o')) := by
    intro i o h
    rw [List.getElem?_set] at h
    split at h
    · rename_i he
      subst he
      simp only [hid, if_true, Option.some.injEq] at h
      subst h
      exact ⟨_, h1, rfl, .inl ⟨rfl, rfl⟩⟩
    · rename_i he
      exact ⟨o, h, rfl, .inr ⟨fun h => he h.symm, rfl⟩⟩
  have hlive : ∀ i, alive σ i = true → alive (σ.set id (.arr ep false sz rows)) i = true := by
    intro i hi
    obtain ⟨o, g1, g2⟩ := alive_iff.1 hi
    by_cases he : i = id
    · subst he
      exact alive_iff.2 ⟨.arr ep false sz rows, List.getElem?_set_self hid, by simp⟩
    · exact alive_iff.2 ⟨o, by rw [List.getElem?_set_ne (fun h => he h.symm)]; exact g1, g2⟩
  have hown : ∀ b, own κ' (σ.set id (.arr ep false sz rows)) b → own κ σ b := by
    rintro b ⟨i, o, g1, g2⟩
    obtain ⟨o', g3, g4, _⟩ := hget i o g1
    exact ⟨i, o', g3, by rw [← g4, ← hblk]; exact g2⟩
  have hR : RS κ' w (σ.set id (.arr ep false sz rows)) := by
    refine ⟨fun i o ho => ?_, fun i j o o' b g1 g2 hb hb' => ?_, fun i o ho => ?_, k5⟩
    · obtain ⟨o', g3, g4, ⟨rfl, rfl⟩ | ⟨g5, rfl⟩⟩ := hget i o ho
      · exact k6
      · refine RO.frame hst (hs.rs.inner i o g3) ?_ (hs.rs.obj i o g3) (by rw [k1]) (fun ep l => by rw [k2]) (fun _ _ => rfl) (fun b hb o' => ⟨fun h => (k4 b o' h).elim (fun h => h) (fun h2 => absurd (hs.rs.inj i id _ _ b g3 h1 hb h2) g5), k3 b o'⟩)
        cases o with
        | dead => exact .inl rfl
        | _ => exact .inr (alive_iff.2 ⟨_, g3, by simp⟩)
    · obtain ⟨p, a1, a2, _⟩ := hget i o g1
      obtain ⟨q, b1, b2, _⟩ := hget j o' g2
      exact hs.rs.inj i j p q b a1 b1 (by rw [← a2, ← hblk]; exact hb) (by rw [← b2, ← hblk]; exact hb')
    · obtain ⟨o', g3, g4, ⟨rfl, rfl⟩ | ⟨g5, rfl⟩⟩ := hget i o ho
      · rfl
      · exact Ob.under_mono hlive (hs.rs.inner i o g3)
  exact ⟨κ', ⟨k3, fun _ _ _ => rfl, fun _ _ => by rw [k1], hst.sl, hlive, fun b o h => (k4 b o h).elim .inl fun h => .inr (.inl ⟨id, _, h1, h⟩), fun _ _ _ => rfl, fun b hb => .inl (hown b hb), Nat.le_refl _, rfl, rfl, rfl, by simp⟩,
    fun t v ht => by obtain ⟨x, g1, g2, g3⟩ := hs.env t v ht; exact ⟨x, g1, g2.stays hst g3, V.under_mono hlive g3⟩, hR, hs.defers, hs.size⟩
/-- .. at the end of a piece of code -/
theorem gZ (id : Nat) {C : Cx} {c : Code} {e : Env} {σ : St} {Q : Ex → Env → St → Prop} (h : W C c e σ (fun ex e' σ' => Q ex e' (freezeSt id σ'))) : W C c e σ Q := fun κ w a hs =>
  wp_mono (h κ w a hs) fun _ _ _ ⟨ex, e', σ', κ', h1, h2, h3, h4⟩ => by
    obtain ⟨κ'', k1, k2⟩ := freeze_ghost id h4
    exact ⟨ex, e', _, κ'', h1, h2, h3.trans k1, k2⟩
/-- .. ahead of a piece of code -/
theorem gZ' (id : Nat) {C : Cx} {c : Code} {e : Env} {σ σ' : St} {Q : Ex → Env → St → Prop} (h : W C c e σ' Q) (hσ : fS (freezeSt id σ) = some σ' := by rfl) : W C c e σ Q := by
  rw [fS_eq] at hσ; injection hσ with hσ; subst hσ
  intro κ w a hs
  obtain ⟨κ', h1, h2⟩ := freeze_ghost id hs
  exact W.later h1 h h2
end Go.Am
