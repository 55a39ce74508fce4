/- The abstract machine: an object is written, or made; what that leaves of all others. -/
import Derived.Test.YtfbocpbeogkapaaAmOps
set_option linter.unusedVariables false
set_option linter.unusedSimpArgs false
namespace Go.Am

/-- a block of memory is written -/
def put (w : World) (b : Nat) (o : Obj) : World := { w with heap := w.heap.setIfInBounds b o }
theorem put_size (w : World) (b : Nat) (o : Obj) : (put w b o).heap.size = w.heap.size := by simp [put]
theorem put_same {w : World} {b : Nat} {o o' : Obj} (h : w.heap[b]? = some o') : (put w b o).heap[b]? = some o := by
  have hb : b < w.heap.size := by
    rcases Nat.lt_or_ge b w.heap.size with h1 | h1
    · exact h1
    · simp [Array.getElem?_eq_none h1] at h
  simp [put, hb]
theorem put_other {w : World} {b b' : Nat} {o : Obj} (h : b' ≠ b) : (put w b o).heap[b']? = w.heap[b']? := by
  simp [put, Array.getElem?_setIfInBounds, Ne.symm h]
theorem put_put (w : World) (b : Nat) (o o' : Obj) : put (put w b o) b o' = put w b o' := by
  simp only [put]
  congr 1
  apply Array.ext_getElem?
  intro i
  simp only [Array.getElem?_setIfInBounds, Array.size_setIfInBounds]
  split <;> rfl
/-- a new block -/
def alloc (w : World) (o : Obj) : World := { w with heap := w.heap.push o }
theorem alloc_new (w : World) (o : Obj) : (alloc w o).heap[w.heap.size]? = some o := by simp [alloc]
theorem alloc_old {w : World} {o : Obj} {b : Nat} (h : b < w.heap.size) : (alloc w o).heap[b]? = w.heap[b]? := by
  simp only [alloc, Array.getElem?_push]; rw [if_neg (by omega)]
theorem alloc_size (w : World) (o : Obj) : (alloc w o).heap.size = w.heap.size + 1 := by simp [alloc]
theorem lt_of_heap {w : World} {b : Nat} {o : Obj} (h : w.heap[b]? = some o) : b < w.heap.size := by
  rcases Nat.lt_or_ge b w.heap.size with h1 | h1
  · exact h1
  · simp [Array.getElem?_eq_none h1] at h

theorem alive_iff {σ : St} {id : Nat} : alive σ id = true ↔ ∃ o, σ[id]? = some o ∧ o ≠ .dead := by
  unfold alive
  cases h : σ[id]? with
  | none => simp
  | some o => cases o <;> simp

theorem blockOf_other {κ κ' : K} {w : World} {σ : St} (hR : RS κ w σ) (hat : ∀ i, alive σ i = true → κ'.at_ i = κ.at_ i)
    (hsl : ∀ i ep len v, alive σ i = true → κ.sl i ep len = some v → κ'.sl i ep len = some v) {i : Nat} {o : Ob} (h : σ[i]? = some o) : blockOf κ' i o = blockOf κ i o := by
  cases o with
  | var cs => exact hat i (alive_iff.2 ⟨_, h, by simp⟩)
  | map es => exact hat i (alive_iff.2 ⟨_, h, by simp⟩)
  | dead => rfl
  | arr ep m sz rows =>
    have hal := alive_iff.2 ⟨_, h, show Ob.arr ep m sz rows ≠ .dead by simp⟩
    obtain ⟨_, h1⟩ := hR.obj _ _ h
    simp only [blockOf]
    rcases h1 with ⟨h1, _⟩ | ⟨b, cap, c, E, h1, _⟩ <;> rw [h1, hsl _ _ _ _ hal h1]

theorem blockOf_lt {κ : K} {w : World} {σ : St} (hR : RS κ w σ) {i : Nat} {o : Ob} (h : σ[i]? = some o) {b : Nat} (hb : blockOf κ i o = some b) : b < w.heap.size := by
  cases o with
  | var cs => obtain ⟨b', c, E, h1, h2, _⟩ := hR.obj _ _ h; simp only [blockOf] at hb; rw [h1] at hb; injection hb with hb; subst hb; exact lt_of_heap h2
  | map es => obtain ⟨b', c, E, h1, h2, _⟩ := hR.obj _ _ h; simp only [blockOf] at hb; rw [h1] at hb; injection hb with hb; subst hb; exact lt_of_heap h2
  | dead => simp [blockOf] at hb
  | arr ep m sz rows =>
    obtain ⟨_, h1⟩ := hR.obj _ _ h
    simp only [blockOf] at hb
    rcases h1 with ⟨h1, _⟩ | ⟨b', cap, c, E, h1, h2, _⟩
    · rw [h1] at hb; simp [nilSlice] at hb
    · rw [h1] at hb; simp at hb; subst hb; exact lt_of_heap h2

/-- an object that is not touched means what it meant -/
theorem RO.stays {κ κ' : K} {w w' : World} {σ : St} (hR : RS κ w σ) (hs : Stays κ w κ' w' (alive σ)) {B : Nat}
    (hnew : ∀ b o, κ'.S b o → κ.S b o ∨ b = B) (hframe : ∀ b, b < w.heap.size → b ≠ B → w'.heap[b]? = w.heap[b]?) {i : Nat} {o : Ob} (h : σ[i]? = some o)
    (hsle : alive σ i = true → ∀ ep len, κ'.sl i ep len = κ.sl i ep len) (hB : ∀ b, blockOf κ i o = some b → b ≠ B) : RO κ' w' i o := by
  have hu := hR.inner _ _ h
  have hS' : ∀ b, b ≠ B → ∀ o, κ'.S b o → κ.S b o := fun b hb o ho => (hnew b o ho).resolve_right hb
  cases o with
  | dead => trivial
  | var cs =>
    obtain ⟨b, c, E, h1, h2, h3, h4⟩ := hR.obj _ _ h
    have hne := hB b (by simpa [blockOf] using h1)
    exact ⟨b, c, E, by rw [hs.at_ i (alive_iff.2 ⟨_, h, by simp⟩), h1], by rw [hframe b (lt_of_heap h2) hne, h2], h3.stays hs hu, fun o ho => h4 o (hS' b hne o ho)⟩
  | map es =>
    obtain ⟨b, ents, clk, h1, h2, h3, h4, h5⟩ := hR.obj _ _ h
    have hne := hB b (by simpa [blockOf] using h1)
    refine ⟨b, ents, clk, by rw [hs.at_ i (alive_iff.2 ⟨_, h, by simp⟩), h1], by rw [hframe b (lt_of_heap h2) hne, h2], h3, fun o ho => h4 o (hS' b hne o ho), fun j k x hj => ?_⟩
    obtain ⟨e, he, hk, hv⟩ := h5 j k x hj
    refine ⟨e, he, hk, hv.stays hs ?_⟩
    simp only [Ob.under, List.all_eq_true] at hu
    exact hu (k, x) (List.mem_of_getElem? hj)
  | arr ep m sz rows =>
    have hal := alive_iff.2 ⟨_, h, show Ob.arr ep m sz rows ≠ .dead by simp⟩
    obtain ⟨h0, h1⟩ := hR.obj _ _ h
    refine ⟨⟨h0.1, fun ep' l v hv => h0.2 ep' l v (hsle hal ep' l ▸ hv)⟩, ?_⟩
    rcases h1 with ⟨h1, h2⟩ | ⟨b, cap, c, E, h1, h2, h3, h4, h5, h6, h7⟩
    · exact .inl ⟨hs.sl _ _ _ _ hal h1, h2⟩
    · have hne := hB b (by simp [blockOf, h1])
      refine .inr ⟨b, cap, c, E, hs.sl _ _ _ _ hal h1, by rw [hframe b (lt_of_heap h2) hne, h2], h3, h4, fun p q row d hp hq => ?_, fun hm o ho => h6 hm o (hS' b hne o ho), fun hm o => ⟨fun ho => (h7 hm o).1 (hS' b hne o ho), fun ho => hs.S _ _ ((h7 hm o).2 ho)⟩⟩
      obtain ⟨v, hv, hd⟩ := h5 p q row d hp hq
      exact ⟨v, hv, hd.mono hs.S hs.keep⟩

theorem alive_set {σ : St} {id : Nat} {o1 : Ob} (hne : o1 ≠ .dead) {i : Nat} (h : alive σ i = true) : alive (σ.set id o1) i = true := by
  obtain ⟨o, ho, hd⟩ := alive_iff.1 h
  rw [alive_iff]
  by_cases hi : id = i
  · subst hi
    have : id < σ.length := (List.getElem?_eq_some_iff.1 ho).1
    exact ⟨o1, by simp [this], hne⟩
  · exact ⟨o, by rw [List.getElem?_set_ne hi]; exact ho, hd⟩

mutual
theorem Cell.under_mono {L L' : Nat → Bool} (h : ∀ i, L i = true → L' i = true) : ∀ {c : Cell}, c.under L = true → c.under L' = true
  | .d _, _ => rfl
  | .rptr _, _ => rfl
  | .arr id _ _, hc => h id hc
  | .ptr id _, hc => h id hc
  | .eptr id _ _ _ _ _, hc => h id hc
  | .map id, hc => h id hc
  | .fn _ a b, hc => by
    simp only [Cell.under, Bool.and_eq_true] at hc ⊢
    exact ⟨underAll_mono h hc.1, underAll_mono h hc.2⟩
theorem underAll_mono {L L' : Nat → Bool} (h : ∀ i, L i = true → L' i = true) : ∀ {cs : List Cell}, underAll L cs = true → underAll L' cs = true
  | [], _ => rfl
  | c :: r, hc => by
    simp only [underAll, Bool.and_eq_true] at hc ⊢
    exact ⟨Cell.under_mono h hc.1, underAll_mono h hc.2⟩
end
theorem FV.under_mono {L L' : Nat → Bool} (h : ∀ i, L i = true → L' i = true) {x : FV} (hx : x.under L = true) : x.under L' = true := by
  cases x with
  | one c => exact Cell.under_mono h hx
  | agg cs => exact underAll_mono h hx
theorem V.under_mono {L L' : Nat → Bool} (h : ∀ i, L i = true → L' i = true) {x : V} (hx : x.under L = true) : x.under L' = true := by
  cases x with
  | one c => exact Cell.under_mono h hx
  | agg cs => exact underAll_mono h hx
  | tup xs =>
    simp only [V.under, List.all_eq_true] at hx ⊢
    exact fun x hm => FV.under_mono h (hx x hm)
  | undef => rfl
theorem Ob.under_mono {L L' : Nat → Bool} (h : ∀ i, L i = true → L' i = true) {x : Ob} (hx : x.under L = true) : x.under L' = true := by
  cases x with
  | var cs => exact underAll_mono h hx
  | arr => rfl
  | dead => rfl
  | map es =>
    simp only [Ob.under, List.all_eq_true] at hx ⊢
    exact fun x hm => FV.under_mono h (hx x hm)

section
variable {κ κ' : K} {w w' : World} {σ : St}

/-- an object is written or made; B: the block that was touched -/
theorem RS.update (hR : RS κ w σ) {id : Nat} {o0 o1 : Ob} {B : Nat} (h0 : σ[id]? = some o0) (hB : blockOf κ id o0 = some B ∨ w.heap.size ≤ B)
    (hS : ∀ b o, κ.S b o → κ'.S b o) (hK : ∀ b o, κ.S b o → cellAt w' b o = cellAt w b o)
    (hat : ∀ i, alive σ i = true → κ'.at_ i = κ.at_ i) (hsl : ∀ i ep len v, alive σ i = true → κ.sl i ep len = some v → κ'.sl i ep len = some v)
    (hsle : ∀ i, i ≠ id → alive σ i = true → ∀ ep len, κ'.sl i ep len = κ.sl i ep len)
    (hnew : ∀ b o, κ'.S b o → κ.S b o ∨ b = B) (hframe : ∀ b, b < w.heap.size → b ≠ B → w'.heap[b]? = w.heap[b]?)
    (hsize : w.heap.size ≤ w'.heap.size) (hBs : ∀ o, κ'.S B o → B < w'.heap.size)
    (os : w'.os = w.os) (tape : w'.tape = w.tape) (output : w'.output = w.output) (hne : o1 ≠ .dead) (h1 : RO κ' w' id o1)
    (hb1 : ∀ b, blockOf κ' id o1 = some b → b = B) (hu : o1.under (alive (σ.set id o1)) = true) :
    Evo κ w σ κ' w' (σ.set id o1) ∧ RS κ' w' (σ.set id o1) := by
  have hid : id < σ.length := (List.getElem?_eq_some_iff.1 h0).1
  have hs : Stays κ w κ' w' (alive σ) := ⟨hS, hK, hat, hsl⟩
  have hother : ∀ i o, i ≠ id → σ[i]? = some o → ∀ b, blockOf κ i o = some b → b ≠ B := by
    intro i o hi ho b hb he
    subst he
    rcases hB with h | h
    · exact hi (hR.inj _ _ _ _ _ ho h0 hb h)
    · exact absurd (blockOf_lt hR ho hb) (by omega)
  have hget : ∀ i o, (σ.set id o1)[i]? = some o → (i = id ∧ o = o1) ∨ (i ≠ id ∧ σ[i]? = some o) := by
    intro i o ho
    by_cases hi : id = i
    · subst hi; simp [hid] at ho; exact .inl ⟨rfl, ho.symm⟩
    · rw [List.getElem?_set_ne hi] at ho; exact .inr ⟨fun e => hi e.symm, ho⟩
  refine ⟨?_, ?_⟩
  · refine ⟨hS, hK, hat, hsl, fun i hi => alive_set hne hi, fun b o ho => ?_, fun b hb hno => ?_, fun b hb => ?_, hsize, os, tape, output, by simp⟩
    · rcases hnew b o ho with h | h
      · exact .inl h
      · subst h
        rcases hB with h | h
        · exact .inr (.inl ⟨id, o0, h0, h⟩)
        · exact .inr (.inr h)
    · refine hframe b hb fun he => ?_
      subst he
      rcases hB with h | h
      · exact hno ⟨id, o0, h0, h⟩
      · omega
    · obtain ⟨i, o, hi, hbo⟩ := hb
      rcases hget i o hi with ⟨rfl, rfl⟩ | ⟨hne', ho⟩
      · have := hb1 b hbo; subst this
        rcases hB with h | h
        · exact .inl ⟨i, o0, h0, h⟩
        · exact .inr h
      · exact .inl ⟨i, o, ho, by rw [← blockOf_other hR hat hsl ho]; exact hbo⟩
  · refine ⟨fun i o hi => ?_, fun i i' o o' b hi hi' hb hb' => ?_, fun i o hi => ?_, fun b o ho => ?_⟩
    · rcases hget i o hi with ⟨rfl, rfl⟩ | ⟨hne', ho⟩
      · exact h1
      · exact RO.stays hR hs hnew hframe ho (hsle i hne') (hother i o hne' ho)
    · rcases hget i o hi with ⟨rfl, rfl⟩ | ⟨hne1, ho⟩ <;> rcases hget i' o' hi' with ⟨rfl, rfl⟩ | ⟨hne2, ho'⟩
      · rfl
      · have e := hb1 b hb; subst e
        exact absurd rfl (hother i' o' hne2 ho' b (by rw [← blockOf_other hR hat hsl ho']; exact hb'))
      · have e := hb1 b hb'; subst e
        exact absurd rfl (hother i o hne1 ho b (by rw [← blockOf_other hR hat hsl ho]; exact hb))
      · exact hR.inj _ _ _ _ _ ho ho' (by rw [← blockOf_other hR hat hsl ho]; exact hb) (by rw [← blockOf_other hR hat hsl ho']; exact hb')
    · rcases hget i o hi with ⟨rfl, rfl⟩ | ⟨hne', ho⟩
      · exact hu
      · exact Ob.under_mono (fun j hj => alive_set hne hj) (hR.inner _ _ ho)
    · rcases hnew b o ho with h | h
      · exact Nat.lt_of_lt_of_le (hR.inside b o h) hsize
      · subst h; exact hBs o ho

/-- memory that is new, and is no object: at most made fast -/
theorem RS.fresh (hR : RS κ w σ) (hS : ∀ b o, κ.S b o → κ'.S b o)
    (hat : κ'.at_ = κ.at_) (hsl : κ'.sl = κ.sl)
    (hnew : ∀ b o, κ'.S b o → κ.S b o ∨ (w.heap.size ≤ b ∧ b < w'.heap.size)) (hframe : ∀ b, b < w.heap.size → w'.heap[b]? = w.heap[b]?)
    (hsize : w.heap.size ≤ w'.heap.size) (os : w'.os = w.os) (tape : w'.tape = w.tape) (output : w'.output = w.output) :
    Evo κ w σ κ' w' σ ∧ RS κ' w' σ := by
  have hK : ∀ b o, κ.S b o → cellAt w' b o = cellAt w b o := fun b o h => cell_of_heap (hframe b (hR.inside b o h)) o
  have hat' : ∀ i, alive σ i = true → κ'.at_ i = κ.at_ i := fun i _ => by rw [hat]
  have hsl' : ∀ i ep len v, alive σ i = true → κ.sl i ep len = some v → κ'.sl i ep len = some v := fun i ep len v _ h => by rw [hsl]; exact h
  have hs : Stays κ w κ' w' (alive σ) := ⟨hS, hK, hat', hsl'⟩
  have hbo : ∀ {i o}, σ[i]? = some o → blockOf κ' i o = blockOf κ i o := fun h => blockOf_other hR hat' hsl' h
  refine ⟨⟨hS, hK, hat', hsl', fun _ h => h, fun b o h => (hnew b o h).elim .inl (fun h => .inr (.inr h.1)), fun b hb _ => hframe b hb, fun b hb => ?_, hsize, os, tape, output, Nat.le_refl _⟩,
    ⟨fun i o hi => ?_, fun i i' o o' b hi hi' hb hb' => hR.inj _ _ _ _ _ hi hi' (hbo hi ▸ hb) (hbo hi' ▸ hb'), hR.inner, fun b o h => (hnew b o h).elim (fun h => Nat.lt_of_lt_of_le (hR.inside b o h) hsize) (fun h => h.2)⟩⟩
  · obtain ⟨i, o, hi, h⟩ := hb
    exact .inl ⟨i, o, hi, hbo hi ▸ h⟩
  · -- as if a block beyond all were touched
    have key : ∀ B, (∀ b o, κ'.S b o → κ.S b o ∨ b = B) ∨ True := fun _ => .inr trivial
    clear key
    have hu := hR.inner _ _ hi
    have hS' : ∀ b, b < w.heap.size → ∀ o, κ'.S b o → κ.S b o := fun b hb o ho => (hnew b o ho).resolve_right (fun h => absurd hb (by omega))
    cases o with
    | dead => trivial
    | var cs =>
      obtain ⟨b, c, E, h1, h2, h3, h4⟩ := hR.obj _ _ hi
      have hlt := lt_of_heap h2
      exact ⟨b, c, E, by rw [hat]; exact h1, by rw [hframe b hlt, h2], h3.stays hs hu, fun o ho => h4 o (hS' b hlt o ho)⟩
    | map es =>
      obtain ⟨b, ents, clk, h1, h2, h3, h4, h5⟩ := hR.obj _ _ hi
      have hlt := lt_of_heap h2
      refine ⟨b, ents, clk, by rw [hat]; exact h1, by rw [hframe b hlt, h2], h3, fun o ho => h4 o (hS' b hlt o ho), fun j k x hj => ?_⟩
      obtain ⟨e, he, hk, hv⟩ := h5 j k x hj
      refine ⟨e, he, hk, hv.stays hs ?_⟩
      simp only [Ob.under, List.all_eq_true] at hu
      exact hu (k, x) (List.mem_of_getElem? hj)
    | arr ep m sz rows =>
      obtain ⟨h0, h1⟩ := hR.obj _ _ hi
      refine ⟨⟨h0.1, fun ep' l v hv => h0.2 ep' l v (by rw [hsl] at hv; exact hv)⟩, ?_⟩
      rcases h1 with ⟨h1, h2⟩ | ⟨b, cap, c, E, h1, h2, h3, h4, h5, h6, h7⟩
      · exact .inl ⟨by rw [hsl]; exact h1, h2⟩
      · have hlt := lt_of_heap h2
        refine .inr ⟨b, cap, c, E, by rw [hsl]; exact h1, by rw [hframe b hlt, h2], h3, h4, fun p q row d hp hq => ?_, fun hm o ho => h6 hm o (hS' b hlt o ho), fun hm o => ⟨fun ho => (h7 hm o).1 (hS' b hlt o ho), fun ho => hS _ _ ((h7 hm o).2 ho)⟩⟩
        obtain ⟨v, hv, hd⟩ := h5 p q row d hp hq
        exact ⟨v, hv, hd.mono hS hK⟩
end
end Go.Am
