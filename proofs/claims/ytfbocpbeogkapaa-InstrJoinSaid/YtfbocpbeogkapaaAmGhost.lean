/- The abstract machine: a nil slice in a variable begins to be an array of its own (nothing happens in memory); a slice held against nil. -/
import Derived.Test.YtfbocpbeogkapaaAmMore
set_option linter.unusedVariables false
set_option linter.unusedSimpArgs false
namespace Go.Am

def adoptSt (σ : St) (id k : Nat) (m : Bool) (n : Nat) : St :=
  match σ[id]? with
  | some (.var cells) => σ.set id (.var (cells.set k (.arr σ.length 0 0))) ++ [.arr 0 m n []]
  | _ => σ
def isNilAt (σ : St) (id k : Nat) : Bool :=
  match σ[id]? with
  | some (.var cells) => match cells[k]? with
    | some (.d (.sc (.slice none 0 0))) => true
    | _ => false
  | _ => false
theorem isNilAt_spec {σ : St} {id k : Nat} (h : isNilAt σ id k = true) : ∃ cells, σ[id]? = some (.var cells) ∧ cells[k]? = some (.d (.sc nilSlice)) := by
  unfold isNilAt at h
  split at h
  · rename_i cells h1
    refine ⟨cells, h1, ?_⟩
    split at h
    · rename_i h2; exact h2
    · simp at h
  · simp at h

section
variable {C : Cx} {e : Env} {σ : St} {Q : Ex → Env → St → Prop}
theorem adopt_ghost {N : Nat} {κ : K} {w : World} {a : Act} {id k n : Nat} {m : Bool} (hs : SR N κ w e σ a) (hn : isNilAt σ id k = true) : ∃ κ', Evo κ w σ κ' w (adoptSt σ id k m n) ∧ SR N κ' w e (adoptSt σ id k m n) a := by
  obtain ⟨cells, h1, h2⟩ := isNilAt_spec hn
  have hid : id < σ.length := (List.getElem?_eq_some_iff.1 h1).1
  have hk : k < cells.length := (List.getElem?_eq_some_iff.1 h2).1
  have hσ : adoptSt σ id k m n = σ.set id (.var (cells.set k (.arr σ.length 0 0))) ++ [.arr 0 m n []] := by simp only [adoptSt, h1]
  rw [hσ]
  let κ' : K := { κ with sl := fun i ep l => if i = σ.length then (if ep = 0 ∧ l = 0 then some nilSlice else none) else κ.sl i ep l }
  have hst : Stays κ w κ' w (alive σ) := ⟨fun _ _ h => h, fun _ _ _ => rfl, fun _ _ => rfl, fun i ep l v hi hv => by
    show (if i = σ.length then _ else κ.sl i ep l) = some v
    rw [if_neg (by have := alive_lt hi; omega)]; exact hv⟩
  have hget : ∀ i o, (σ.set id (.var (cells.set k (.arr σ.length 0 0))) ++ [Ob.arr 0 m n []])[i]? = some o → (i = id ∧ o = .var (cells.set k (.arr σ.length 0 0))) ∨ (i = σ.length ∧ o = .arr 0 m n []) ∨ (i ≠ id ∧ i < σ.length ∧ σ[i]? = some o) := by
    intro i o h
    rw [List.getElem?_append] at h
    split at h
    · rename_i hlt
      simp only [List.length_set] at hlt
      rw [List.getElem?_set] at h
      split at h
      · rename_i he
        subst he
        simp only [hid, if_true, Option.some.injEq] at h
        exact .inl ⟨rfl, h.symm⟩
      · rename_i he; exact .inr (.inr ⟨fun h => he h.symm, hlt, h⟩)
    · rename_i hlt
      simp only [List.length_set] at hlt h
      have h0 : i - σ.length = 0 := by
        have := (List.getElem?_eq_some_iff.1 h).1
        simp at this; omega
      rw [h0] at h
      simp only [List.getElem?_cons_zero, Option.some.injEq] at h
      exact .inr (.inl ⟨by omega, h.symm⟩)
  have hlive : ∀ i, alive σ i = true → alive (σ.set id (.var (cells.set k (.arr σ.length 0 0))) ++ [Ob.arr 0 m n []]) i = true := by
    intro i hi
    obtain ⟨o, g1, g2⟩ := alive_iff.1 hi
    have hlt := alive_lt hi
    by_cases he : i = id
    · subst he
      exact alive_iff.2 ⟨.var (cells.set k (.arr σ.length 0 0)), by rw [List.getElem?_append_left (by simpa using hlt), List.getElem?_set_self hlt], by simp⟩
    · exact alive_iff.2 ⟨o, by rw [List.getElem?_append_left (by simpa using hlt), List.getElem?_set_ne (fun h => he h.symm)]; exact g1, g2⟩
  have hnew : alive (σ.set id (.var (cells.set k (.arr σ.length 0 0))) ++ [Ob.arr 0 m n []]) σ.length = true :=
    alive_iff.2 ⟨.arr 0 m n [], by rw [List.getElem?_append_right (by simp)]; simp, by simp⟩
  have hblk : ∀ i o, i < σ.length → blockOf κ' i o = blockOf κ i o := by
    intro i o hi
    have hne : ¬ i = σ.length := by omega
    cases o <;> simp only [blockOf, κ', if_neg hne]
  have hown : ∀ b, own κ' (σ.set id (.var (cells.set k (.arr σ.length 0 0))) ++ [Ob.arr 0 m n []]) b → own κ σ b := by
    rintro b ⟨i, o, g1, g2⟩
    rcases hget i o g1 with ⟨rfl, rfl⟩ | ⟨rfl, rfl⟩ | ⟨g3, g4, g5⟩
    · exact ⟨i, .var cells, h1, g2⟩
    · simp [blockOf, κ', nilSlice] at g2
    · exact ⟨i, o, g5, by rw [← hblk i o g4]; exact g2⟩
  have hR : RS κ' w (σ.set id (.var (cells.set k (.arr σ.length 0 0))) ++ [Ob.arr 0 m n []]) := by
    refine ⟨fun i o ho => ?_, fun i j o o' b g1 g2 hb hb' => ?_, fun i o ho => ?_, hs.rs.inside⟩
    · rcases hget i o ho with ⟨rfl, rfl⟩ | ⟨rfl, rfl⟩ | ⟨g3, g4, g5⟩
      · obtain ⟨b, c, T, a1, a2, a3, a4⟩ := hs.rs.obj _ _ h1
        refine ⟨b, c, T, a1, a2, ⟨by rw [List.length_set]; exact a3.1, fun j x v hj hv => ?_⟩, a4⟩
        rw [List.getElem?_set] at hj
        split at hj
        · rename_i he
          subst he
          simp only [hk, if_true, Option.some.injEq] at hj
          subst hj
          have hc := a3.2 k _ v h2 hv
          have hvn : v = nilSlice := by cases hc with | d _ _ hd => cases hd with | sc _ _ => rfl
          subst hvn
          exact .arr _ _ _ none 0 (by simp [κ', nilSlice])
        · exact (a3.2 j x v hj hv).stays hst (under_of_mem (hs.rs.inner _ _ h1) j x hj)
      · refine ⟨⟨fun r hr => by simp at hr, fun ep' l v hv => ?_⟩, .inl ⟨by simp [κ'], rfl⟩⟩
        simp only [κ', if_true] at hv
        split at hv
        · rename_i hh; exact .inr ⟨hh.1, by simp [hh.2]⟩
        · simp at hv
      · refine RO.frame hst (hs.rs.inner i o g5) ?_ (hs.rs.obj i o g5) rfl (fun ep l => by simp only [κ']; rw [if_neg (by omega)]) (fun _ _ => rfl) (fun _ _ _ => Iff.rfl)
        cases o with
        | dead => exact .inl rfl
        | _ => exact .inr (alive_iff.2 ⟨_, g5, by simp⟩)
    · rcases hget i o g1 with ⟨rfl, rfl⟩ | ⟨rfl, rfl⟩ | ⟨g3, g4, g5⟩
      · rcases hget j o' g2 with ⟨rfl, rfl⟩ | ⟨rfl, rfl⟩ | ⟨k3, k4, k5⟩
        · rfl
        · simp [blockOf, κ', nilSlice] at hb'
        · exact hs.rs.inj i j (.var cells) o' b h1 k5 hb (by rw [← hblk j o' k4]; exact hb')
      · simp [blockOf, κ', nilSlice] at hb
      · rcases hget j o' g2 with ⟨rfl, rfl⟩ | ⟨rfl, rfl⟩ | ⟨k3, k4, k5⟩
        · exact hs.rs.inj i j o (.var cells) b g5 h1 (by rw [← hblk i o g4]; exact hb) hb'
        · simp [blockOf, κ', nilSlice] at hb'
        · exact hs.rs.inj i j o o' b g5 k5 (by rw [← hblk i o g4]; exact hb) (by rw [← hblk j o' k4]; exact hb')
    · rcases hget i o ho with ⟨rfl, rfl⟩ | ⟨rfl, rfl⟩ | ⟨g3, g4, g5⟩
      · refine underAll_of fun j c hj => ?_
        rw [List.getElem?_set] at hj
        split at hj
        · rename_i he
          subst he
          simp only [hk, if_true, Option.some.injEq] at hj
          subst hj; exact hnew
        · exact Cell.under_mono hlive (under_of_mem (hs.rs.inner _ _ h1) j c hj)
      · rfl
      · exact Ob.under_mono hlive (hs.rs.inner i o g5)
  exact ⟨κ', ⟨fun _ _ h => h, fun _ _ _ => rfl, fun _ _ => rfl, hst.sl, hlive, fun _ _ h => .inl h, fun _ _ _ => rfl, fun b hb => .inl (hown b hb), Nat.le_refl _, rfl, rfl, rfl, by simp⟩,
    fun t v ht => by obtain ⟨x, g1, g2, g3⟩ := hs.env t v ht; exact ⟨x, g1, g2.stays hst g3, V.under_mono hlive g3⟩, hR, hs.defers, hs.size⟩

/-- ahead of a piece of code -/
theorem gA (id k : Nat) (m : Bool) (n : Nat) {c : Code} {σ' : St} (h : W C c e σ' Q) (hn : isNilAt σ id k = true := by rfl) (hσ : fS (adoptSt σ id k m n) = some σ' := by rfl) : W C c e σ Q := by
  rw [fS_eq] at hσ; injection hσ with hσ; subst hσ
  intro κ w a hs
  obtain ⟨κ', h1, h2⟩ := adopt_ghost (m := m) (n := n) hs hn
  exact W.later h1 h h2
end

/-! a slice, held against nil -/
section
variable {C : Cx} {all l : List Oper} {k : Nat} {e : Env} {σ : St} {o : Oper} {Q : Env → St → Prop}
theorem lNil {t t' et : TypeId} {x y : Operand} {rows : List (List D)} (hT : C.T.fits C.P) (h : ∀ b, (rows ≠ [] → b = false) → WL C all l (k + 1) (Env.put e o.dst (bool b)) σ Q) (ho : o.op = .binOp .eql t x y t' := by rfl) (hy : y = .const (.slice none 0 0) := by rfl) (hg : guardOk e all o = some true := by rfl) (hd : dstOk C.n o = true := by rfl)
    (ht : C.T.und t = some (.slice et) := by rfl) (hx : ev e x = some (.one (.d (.list rows))) := by rfl) : WL C all (o :: l) k e σ Q := by
  subst hy
  intro hall κ w a hs
  have hhead := head_of hall
  show wpOps C.P all.toArray _ (k :: idxs l (k + 1)) a w
  simp only [wpOps, hhead, guard_sound (ops := all.toArray) hs (by simpa using hg), if_true]
  left
  obtain ⟨hv, _⟩ := ev_sound hs hx
  generalize hz : a.eval x = z at hv
  cases hv with | one _ _ hc =>
  cases hc with | d _ _ hd' =>
  have key : ∃ ad len cap, z = .slice ad len cap ∧ (rows ≠ [] → ad.isNone = false) := by
    cases hd' with
    | nil ad cap => exact ⟨ad, 0, cap, rfl, fun h => absurd rfl h⟩
    | list b off cap sz rows vs h1 h2 h3 h4 => exact ⟨_, _, _, rfl, fun _ => rfl⟩
  obtain ⟨ad, len, cap, rfl, hne⟩ := key
  have heq : (Op.equal t (.slice ad len cap) (.slice none 0 0)).run C.P w = .ok ad.isNone w := by
    show (Op.equalIn (9999 + 1) t (.slice ad len cap) (.slice none 0 0)).run C.P w = _
    unfold Op.equalIn
    rw [run_bind (run_underlying hT ht)]
    cases ad <;> rfl
  have hb : (binOp .eql t (.slice ad len cap) (.slice none 0 0)).run C.P w = .ok (.bool ad.isNone) w := by
    simp only [binOp]; rw [run_bind heq]; rfl
  have hgd : (eqGuard .eql t x (.const (.slice none 0 0)) (.slice ad len cap) (.slice none 0 0)).run C.P w = .ok () w := by
    unfold eqGuard; rfl
  have hrun : (execOp a.eval o).run C.P w = .ok (.value (.bool ad.isNone)) w := by
    obtain ⟨dst, op, ty, pos, after, guard⟩ := o
    simp only at ho
    subst ho
    simp only [execOp, hz]
    show (do let z ← (do eqGuard .eql t x (.const (.slice none 0 0)) (.slice ad len cap) (.slice none 0 0); binOp .eql t (.slice ad len cap) (.slice none 0 0) : Sem Value); pure (Next.value z) : Sem Next).run C.P w = _
    rw [Sem.run_bind, Sem.run_bind, hgd]
    simp only [Result.andThen]
    rw [hb]; rfl
  unfold Oper.wp
  rw [hrun]
  have hs' : SR C.n κ w (Env.put e o.dst (bool ad.isNone)) σ (a.put o.dst (.bool ad.isNone)) := hs.put ⟨fun _ _ h => h, fun _ _ _ => rfl, fun _ _ => rfl, fun _ _ _ _ _ h => h⟩ (fun _ h => h) hs.rs (.one _ _ (.d _ _ (.sc _ rfl))) rfl (dstOk_spec hd)
  exact WO.later .refl (WL.tail hall (h ad.isNone hne)) hs'
end
end Go.Am
