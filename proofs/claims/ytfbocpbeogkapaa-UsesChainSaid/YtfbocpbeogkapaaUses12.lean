/- A part of a proof: functions of the program, walked over the abstract machine. -/
import Derived.Test.YtfbocpbeogkapaaUses11
set_option linter.unusedVariables false
set_option linter.unusedSimpArgs false
namespace Go.Proofs.Ytfbocpbeogkapaa
open Go Go.Am Go.Proofs
theorem namesSim {m : AL (List Part)} {l : List Pol} {n n' : Nat} (hlm : ∀ name, lastOf l name = look m name) (hn : room m [] < n) (hn' : roomR l [] < n') :
    ∀ (names : List ByteArray) (s : Fl), s.ok → Rel m s → s.within = [] →
      (namesF (polF m n) s names).1 = (rNamesF (refF l n' []) s.out.length s.out names).2 ∧ ((rNamesF (refF l n' []) s.out.length s.out names).2 ≠ 0 → (rNamesF (refF l n' []) s.out.length s.out names).1 = []) ∧
      ((namesF (polF m n) s names).1 = 0 → (namesF (polF m n) s names).2.out = (rNamesF (refF l n' []) s.out.length s.out names).1)
  | [], s, hs, hR, hw => ⟨rfl, fun h => absurd rfl h, fun _ => rfl⟩
  | x :: r, s, hs, hR, hw => by
    have h := polSim hlm n n' s x hs hR (by rw [hw]; exact hn) (by rw [hw]; exact hn')
    have hg := polF_good m n s x hs
    rw [hw] at h
    simp only [List.map_nil] at h
    simp only [namesF, rNamesF]
    generalize polF m n s x = p at h hg ⊢
    generalize refF l n' [] s.out.length x = q at h ⊢
    obtain ⟨a1, a2, a3⟩ := h
    by_cases hz : p.1 = 0
    · rw [if_pos hz, if_pos (a1 ▸ hz)]
      obtain ⟨c1, _, c3, c4, _⟩ := a3 hz
      have hg := hg hz
      have ih := namesSim hlm hn hn' r p.2 hg.1 c1 (by rw [hg.2.1, hw])
      rw [← c4, c3] at ih
      exact ih
    · rw [if_neg hz, if_neg (a1 ▸ hz)]
      exact ⟨a1, fun _ => rfl, fun h => absurd h hz⟩
theorem rParts_use {g : Nat → ByteArray → (List Part × Int) × Nat} (hg : ∀ c s, ∀ x ∈ (g c s).1.1, x.use = ⟨#[]⟩) : ∀ (ps : List Part) (c : Nat) (out : List Part), (∀ x ∈ out, x.use = ⟨#[]⟩) → ∀ x ∈ (rPartsF g c out ps).1.1, x.use = ⟨#[]⟩
  | [], c, out, ho => ho
  | x :: r, c, out, ho => by
    simp only [rPartsF]
    split
    · rename_i hx
      split
      · intro y hy; simp at hy
      · refine rParts_use hg r _ _ fun y hy => ?_
        rcases List.mem_append.1 hy with hy | hy
        · exact ho y hy
        · simp at hy; subst hy; exact hx
    · split
      · refine rParts_use hg r _ _ fun y hy => ?_
        rcases List.mem_append.1 hy with hy | hy
        · exact ho y hy
        · exact hg _ _ y hy
      · intro y hy; simp at hy
theorem refF_use (l : List Pol) : ∀ (n : Nat) (op : List ByteArray) (c : Nat) (name : ByteArray), ∀ x ∈ (refF l n op c name).1.1, x.use = ⟨#[]⟩
  | 0, op, c, name => by intro x hx; simp [refF] at hx
  | n + 1, op, c, name => by
    simp only [refF]
    split
    · intro x hx; simp at hx
    · split
      · intro x hx; simp at hx
      · exact rParts_use (refF_use l n (op ++ [name])) _ _ _ (by intro x hx; simp at hx)
theorem rNames_use {l : List Pol} {n : Nat} : ∀ (names : List ByteArray) (c : Nat) (out : List Part), (∀ x ∈ out, x.use = ⟨#[]⟩) → ∀ x ∈ (rNamesF (refF l n []) c out names).1, x.use = ⟨#[]⟩
  | [], c, out, ho => ho
  | x :: r, c, out, ho => by
    simp only [rNamesF]
    split
    · refine rNames_use r _ _ fun y hy => ?_
      rcases List.mem_append.1 hy with hy | hy
      · exact ho y hy
      · exact refF_use l n [] _ _ y hy
    · intro y hy; simp at hy
theorem strip_same : ∀ {l : List Part}, (∀ x ∈ l, x.use = ⟨#[]⟩) → l.map Part.strip = l
  | [], _ => rfl
  | x :: r, h => by
    rw [List.map_cons, strip_same fun y hy => h y (by simp [hy])]
    have hx := h x (by simp)
    obtain ⟨u, a, b⟩ := x
    simp only at hx; subst hx; rfl
theorem dup_eq : ∀ (r d : List Pol), dup (polsM d) r = dupR d r
  | [], d => rfl
  | x :: r, d => by
    have e : (fk x.name (polsM d) 0).isSome = d.any (fun y => y.name == x.name) := by
      rw [Bool.eq_iff_iff, List.any_eq_true]
      constructor
      · intro h
        have : x.name ∈ (polsM d).map (·.1) := Classical.byContradiction fun hc => by rw [fk_none.2 hc] at h; simp at h
        simp only [polsM, List.map_map, List.mem_map, Function.comp] at this
        obtain ⟨y, hy, he⟩ := this
        exact ⟨y, hy, by rw [ba_beq, he]; simp⟩
      · rintro ⟨y, hy, he⟩
        rw [ba_beq, decide_eq_true_eq] at he
        cases hf : fk x.name (polsM d) 0 with
        | some _ => rfl
        | none =>
          have := fk_none.1 hf
          exact absurd (by simp only [polsM, List.map_map, List.mem_map, Function.comp]; exact ⟨y, hy, he⟩) this
    simp only [dup, dupR, e]
    rw [← polsM_app', dup_eq r (d ++ [x])]
theorem dupR_out : ∀ (r d : List Pol), dupR d r = false → (r.map (·.name)).Nodup ∧ ∀ x ∈ r, ∀ y ∈ d, y.name ≠ x.name
  | [], d, _ => ⟨List.nodup_nil, by intro x hx; simp at hx⟩
  | x :: r, d, h => by
    simp only [dupR] at h
    split at h
    · simp at h
    · rename_i hn
      obtain ⟨h1, h2⟩ := dupR_out r (d ++ [x]) h
      rw [List.map_cons, List.nodup_cons]
      refine ⟨⟨fun hm => ?_, h1⟩, fun z hz y hy => ?_⟩
      · obtain ⟨z, hz, he⟩ := List.mem_map.1 hm
        exact h2 z hz x (by simp) he.symm
      · rcases List.mem_cons.1 hz with rfl | hz
        · intro he
          exact hn (List.any_eq_true.2 ⟨y, hy, by rw [ba_beq, he]; simp⟩)
        · exact h2 z hz y (by simp [hy])
theorem lastOf_look : ∀ (l : List Pol) (name : ByteArray), (l.map (·.name)).Nodup → lastOf l name = look (polsM l) name
  | [], name, _ => rfl
  | x :: r, name, h => by
    rw [List.map_cons, List.nodup_cons] at h
    have ih := lastOf_look r name h.2
    show (match lastOf r name with | some p => some p | none => if x.name = name then some x.parts else none) = (if name = x.name then some x.parts else look (polsM r) name)
    rw [← ih]
    by_cases hx : name = x.name
    · subst hx
      have : lastOf r x.name = none := by
        cases hc : lastOf r x.name with
        | none => rfl
        | some ps =>
          obtain ⟨p, hp, hn, _⟩ := lastOf_mem hc
          exact absurd (List.mem_map.2 ⟨p, hp, hn⟩) h.1
      simp [this]
    · rw [if_neg hx, if_neg (fun h => hx h.symm)]
      cases lastOf r name <;> rfl
/-- both ways give the same -/
theorem flat_same (l : List Pol) (names : List ByteArray) : flatF l names = refFlat l names := by
  have hd : dup [] l = dupR [] l := dup_eq l []
  unfold flatF refFlat
  rw [hd]
  cases hdd : dupR [] l with
  | true => rfl
  | false =>
    have hlm := fun name => lastOf_look l name (dupR_out l [] hdd).1
    have h := namesSim (m := polsM l) (l := l) (n := l.length + 1) (n' := l.length + 1) hlm (by have := room_le (polsM l) []; simp [polsM] at this ⊢; omega)
      (by have := List.length_filter_le (fun p : Pol => !([] : List ByteArray).any (· == p.name)) l; simp only [roomR]; omega) names startF ⟨by decide, by intro p hp; cases hp⟩ ⟨.nil, by intro k v h; simp [startF, look] at h⟩ rfl
    have hu := rNames_use (l := l) (n := l.length + 1) names 0 [] (by intro x hx; simp at hx)
    have e : startF.out.length = 0 := rfl
    have e2 : startF.out = [] := rfl
    rw [e, e2] at h
    simp only [Bool.false_eq_true, if_false]
    generalize namesF (polF (polsM l) (l.length + 1)) startF names = p at h ⊢
    generalize rNamesF (refF l (l.length + 1) []) 0 [] names = q at h hu ⊢
    obtain ⟨a1, a2, a3⟩ := h
    by_cases hz : p.1 = 0
    · rw [if_pos hz, a3 hz, strip_same hu]
      rw [hz] at a1
      exact Prod.ext rfl a1
    · rw [if_neg hz]
      have hq := a1 ▸ hz
      exact Prod.ext (a2 hq).symm a1
theorem Ex.eqb_refl : (∀ e : Ex, e.eqb e = true) := by
  intro e
  exact Ex.rec (motive_1 := fun e => e.eqb e = true) (motive_2 := fun l => Ex.eqbs l l = true) (fun k o n u l ih => by simp [Ex.eqb, ba_beq, ih]) rfl (fun x l h1 h2 => by simp [Ex.eqbs, h1, h2]) e
end Go.Proofs.Ytfbocpbeogkapaa
