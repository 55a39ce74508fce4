/- The abstract machine: calls that hand references on: the rules. -/
import Derived.Test.YtfbocpbeogkapaaAmCall
set_option linter.unusedVariables false
set_option linter.unusedSimpArgs false
namespace Go.Am

/-- names for the objects that the callee made -/
def newIds : Nat → St → List Nat
  | _, [] => []
  | n, _ :: t => n :: newIds (n + 1) t
/-- the caller's names of all objects of the callee -/
def allIds (σ : St) (r : List Nat) (σ0 : St) : List Nat := r ++ newIds σ.length (σ0.drop r.length)
def setAll (R : List Nat) : St → List Nat → St → St
  | σ, [], os => σ ++ rnS R os
  | σ, id :: ids, o :: os => setAll R (σ.set id (rnO R o)) ids os
  | σ, _ :: _, [] => σ
/-- the caller's state behind the call -/
def merge (σ : St) (r : List Nat) (σ0 : St) : St := setAll (allIds σ r σ0) σ r σ0

theorem newIds_eq : ∀ (n : Nat) (s : St), newIds n s = List.range' n s.length
  | n, [] => rfl
  | n, _ :: t => by simp [newIds, newIds_eq (n + 1) t, List.range'_succ]
theorem setAll_length (R : List Nat) : ∀ (σ : St) (ids : List Nat) (os : St), ids.length ≤ os.length → (setAll R σ ids os).length = σ.length + (os.length - ids.length)
  | σ, [], os, _ => by simp [setAll, rnS_length]
  | σ, id :: ids, o :: os, h => by
    rw [setAll, setAll_length R _ ids os (by simpa using h)]; simp
  | σ, _ :: _, [], h => by simp at h
theorem setAll_other (R : List Nat) (id : Nat) : ∀ (σ : St) (ids : List Nat) (os : St), id ∉ ids → id < σ.length → (setAll R σ ids os)[id]? = σ[id]?
  | σ, [], os, _, h => by rw [setAll, List.getElem?_append_left h]
  | σ, x :: ids, o :: os, hn, h => by
    simp only [List.mem_cons, not_or] at hn
    rw [setAll, setAll_other R id _ ids os hn.2 (by simpa using h), List.getElem?_set_ne (fun e => hn.1 e.symm)]
  | σ, _ :: _, [], _, _ => rfl
theorem setAll_at (R : List Nat) : ∀ (σ : St) (ids : List Nat) (os : St) (i : Nat), ids.Nodup → (∀ x ∈ ids, x < σ.length) → i < ids.length → ids.length ≤ os.length → (setAll R σ ids os)[rn ids i]? = os[i]?.map (rnO R)
  | σ, [], os, i, _, _, hi, _ => by simp at hi
  | σ, x :: ids, [], i, _, _, _, h => by simp at h
  | σ, x :: ids, o :: os, 0, hnd, hlt, _, _ => by
    rw [List.nodup_cons] at hnd
    rw [setAll, rn, setAll_other R x _ ids os hnd.1 (by simpa using hlt x (by simp)), List.getElem?_set_self (hlt x (by simp))]; rfl
  | σ, x :: ids, o :: os, i + 1, hnd, hlt, hi, hl => by
    rw [List.nodup_cons] at hnd
    rw [setAll, rn, setAll_at R _ ids os i hnd.2 (fun y hy => by simpa using hlt y (by simp [hy])) (by simpa using hi) (by simpa using hl)]; simp
theorem setAll_new (R : List Nat) : ∀ (σ : St) (ids : List Nat) (os : St) (j : Nat), ids.length ≤ os.length → (setAll R σ ids os)[σ.length + j]? = os[ids.length + j]?.map (rnO R)
  | σ, [], os, j, _ => by rw [setAll, List.getElem?_append_right (by omega), rnS_get]; simp
  | σ, x :: ids, [], j, h => by simp at h
  | σ, x :: ids, o :: os, j, h => by
    rw [setAll, show σ.length = (σ.set x (rnO R o)).length from by simp, setAll_new R _ ids os j (by simpa using h)]
    simp only [List.length_cons]
    rw [show ids.length + 1 + j = (ids.length + j) + 1 from by omega]; simp

section
variable {σ σ0' : St} {r : List Nat}
theorem allIds_length (h : r.length ≤ σ0'.length) : (allIds σ r σ0').length = σ0'.length := by simp [allIds, newIds_eq]; omega
theorem rn_range' {n m i : Nat} (h : i < m) : rn (List.range' n m) i = n + i := by
  have := rn_get (r := List.range' n m) (i := i) (by simpa using h)
  rw [List.getElem?_range' h] at this
  simpa using (Option.some.inj this).symm
theorem rn_right {a b : List Nat} {j : Nat} (h : j < b.length) : rn (a ++ b) (a.length + j) = rn b j := by
  have h1 : (a ++ b)[a.length + j]? = some (rn (a ++ b) (a.length + j)) := rn_get (by simp; omega)
  rw [List.getElem?_append_right (by omega), show a.length + j - a.length = j from by omega, rn_get h] at h1
  exact (Option.some.inj h1).symm
theorem allIds_new (h : r.length ≤ σ0'.length) {j : Nat} (hj : r.length + j < σ0'.length) : rn (allIds σ r σ0') (r.length + j) = σ.length + j := by
  rw [allIds, rn_right (by rw [newIds_eq]; simp; omega), newIds_eq, rn_range' (by simp; omega)]
theorem allIds_old {i : Nat} (hi : i < r.length) : rn (allIds σ r σ0') i = rn r i := rn_append hi
theorem mem_rn {i : Nat} (hi : i < r.length) : rn r i ∈ r := List.mem_of_getElem? (rn_get hi)

theorem merge_at (hnd : r.Nodup) (hlt : ∀ x ∈ r, x < σ.length) (hl : r.length ≤ σ0'.length) {i : Nat} (hi : i < σ0'.length) :
    (merge σ r σ0')[rn (allIds σ r σ0') i]? = σ0'[i]?.map (rnO (allIds σ r σ0')) := by
  by_cases h : i < r.length
  · rw [allIds_old h]; exact setAll_at _ _ _ _ _ hnd hlt h hl
  · obtain ⟨j, rfl⟩ : ∃ j, i = r.length + j := ⟨i - r.length, by omega⟩
    rw [allIds_new hl hi]; exact setAll_new _ _ _ _ _ hl
theorem merge_other {id : Nat} (hid : id ∉ r) (hlt : id < σ.length) : (merge σ r σ0')[id]? = σ[id]? := setAll_other _ _ _ _ _ hid hlt
theorem merge_length (hl : r.length ≤ σ0'.length) : (merge σ r σ0').length = σ.length + (σ0'.length - r.length) := setAll_length _ _ _ _ hl
/-- each object of the caller's behind the call is one of the callee's, or one that it had -/
theorem merge_cases (hnd : r.Nodup) (hlt : ∀ x ∈ r, x < σ.length) (hl : r.length ≤ σ0'.length) {id : Nat} {o : Ob} (h : (merge σ r σ0')[id]? = some o) :
    (∃ i o0, i < σ0'.length ∧ id = rn (allIds σ r σ0') i ∧ σ0'[i]? = some o0 ∧ o = rnO (allIds σ r σ0') o0) ∨ (id ∉ r ∧ id < σ.length ∧ σ[id]? = some o) := by
  have hlen := merge_length (σ := σ) hl
  have hid : id < (merge σ r σ0').length := (List.getElem?_eq_some_iff.1 h).1
  have key : ∀ i, i < σ0'.length → id = rn (allIds σ r σ0') i → ∃ i o0, i < σ0'.length ∧ id = rn (allIds σ r σ0') i ∧ σ0'[i]? = some o0 ∧ o = rnO (allIds σ r σ0') o0 := by
    intro i hi hr
    have := merge_at hnd hlt hl hi
    rw [← hr, h, List.getElem?_eq_getElem hi] at this
    simp only [Option.map_some, Option.some.injEq] at this
    exact ⟨i, σ0'[i], hi, hr, List.getElem?_eq_getElem hi, this⟩
  by_cases h1 : id < σ.length
  · by_cases h2 : id ∈ r
    · obtain ⟨i, hi⟩ := List.mem_iff_getElem?.1 h2
      have hlt' : i < r.length := (List.getElem?_eq_some_iff.1 hi).1
      have : rn r i = id := by rw [rn_get hlt'] at hi; exact Option.some.inj hi
      exact .inl (key i (by omega) (by rw [allIds_old hlt', this]))
    · exact .inr ⟨h2, h1, by rw [merge_other h2 h1] at h; exact h⟩
  · obtain ⟨j, rfl⟩ : ∃ j, id = σ.length + j := ⟨id - σ.length, by omega⟩
    exact .inl (key (r.length + j) (by omega) (by rw [allIds_new hl (by omega)]))
theorem allIds_inj (hnd : r.Nodup) (hlt : ∀ x ∈ r, x < σ.length) (hl : r.length ≤ σ0'.length) {i j : Nat} (hi : i < σ0'.length) (hj : j < σ0'.length) (h : rn (allIds σ r σ0') i = rn (allIds σ r σ0') j) : i = j := by
  have hND : (allIds σ r σ0').Nodup := by
    rw [allIds, newIds_eq, List.nodup_append]
    refine ⟨hnd, List.nodup_range', fun a ha b hb => ?_⟩
    have := hlt a ha
    simp at hb; omega
  have hil : i < (allIds σ r σ0').length := by rw [allIds_length hl]; exact hi
  have hjl : j < (allIds σ r σ0').length := by rw [allIds_length hl]; exact hj
  exact (List.getElem?_inj hil hND).1 (by rw [rn_get hil, rn_get hjl, h])
end

open Classical in
/-- the ghost behind the call -/
noncomputable def back (R : List Nat) (κ κ0 : K) : K where
  S := κ0.S
  at_ id := if h : ∃ i, i < R.length ∧ rn R i = id then κ0.at_ h.choose else κ.at_ id
  sl id ep l := if h : ∃ i, i < R.length ∧ rn R i = id then κ0.sl h.choose ep l else κ.sl id ep l
/-- the ghost of the callee -/
def via (r : List Nat) (κ : K) : K where
  S := κ.S
  at_ i := bif inR r i then κ.at_ (rn r i) else none
  sl i ep l := bif inR r i then κ.sl (rn r i) ep l else none
theorem via_same (r : List Nat) (κ : K) : Same r (via r κ) κ :=
  ⟨fun _ _ => Iff.rfl, fun i hi => by simp [via, inR_lt.2 hi], fun i ep l hi => by simp [via, inR_lt.2 hi]⟩
theorem back_same {R : List Nat} (κ κ0 : K) (hinj : ∀ i j, i < R.length → j < R.length → rn R i = rn R j → i = j) : Same R κ0 (back R κ κ0) := by
  have key : ∀ i, i < R.length → ∃ h : (∃ j, j < R.length ∧ rn R j = rn R i), h.choose = i := fun i hi => by
    have h : ∃ j, j < R.length ∧ rn R j = rn R i := ⟨i, hi, rfl⟩
    exact ⟨h, hinj _ _ h.choose_spec.1 hi h.choose_spec.2⟩
  refine ⟨fun _ _ => Iff.rfl, fun i hi => ?_, fun i ep l hi => ?_⟩
  · obtain ⟨h, hc⟩ := key i hi
    simp only [back]; rw [dif_pos h, hc]
  · obtain ⟨h, hc⟩ := key i hi
    simp only [back]; rw [dif_pos h, hc]
theorem back_other {R : List Nat} (κ κ0 : K) {id : Nat} (h : ∀ i, i < R.length → rn R i ≠ id) : (back R κ κ0).at_ id = κ.at_ id ∧ ∀ ep l, (back R κ κ0).sl id ep l = κ.sl id ep l := by
  have : ¬ ∃ i, i < R.length ∧ rn R i = id := fun ⟨i, h1, h2⟩ => h i h1 h2
  exact ⟨by simp only [back]; rw [dif_neg this], fun ep l => by simp only [back]; rw [dif_neg this]⟩

def inS (σ0 : St) (r : List Nat) : Bool := σ0.all fun o => o.under (inR r)
/-- the caller's objects that the callee sees -/
def fits (σ : St) : List Nat → St → List Nat → Prop
  | [], [], _ => True
  | id :: ids, o :: os, r => σ[id]? = some (rnO r o) ∧ fits σ ids os r
  | _, _, _ => False
theorem fits_get {σ : St} {R : List Nat} : ∀ {r : List Nat} {σ0 : St}, fits σ r σ0 R → σ0.length = r.length ∧ ∀ i o, σ0[i]? = some o → σ[rn r i]? = some (rnO R o)
  | [], [], _ => ⟨rfl, fun i o h => by simp at h⟩
  | x :: r, [], h => h.elim
  | [], o :: os, h => h.elim
  | x :: r, o :: os, h => by
    obtain ⟨h1, h2⟩ := h
    obtain ⟨h3, h4⟩ := fits_get h2
    refine ⟨by simp [h3], fun i u hi => ?_⟩
    cases i with
    | zero => simp at hi; subst hi; exact h1
    | succ i => exact h4 i u (by simpa using hi)

theorem alive_lt {σ : St} {id : Nat} (h : alive σ id = true) : id < σ.length := by
  obtain ⟨o, h1, _⟩ := alive_iff.1 h
  exact (List.getElem?_eq_some_iff.1 h1).1

theorem alive_rn {σ σ0 : St} {r : List Nat} (hf : ∀ i o, σ0[i]? = some o → σ[rn r i]? = some (rnO r o)) {i : Nat} (h : alive σ0 i = true) : alive σ (rn r i) = true := by
  obtain ⟨o, h1, h2⟩ := alive_iff.1 h
  exact alive_iff.2 ⟨rnO r o, hf i o h1, by cases o <;> simp_all [rnO]⟩

theorem call_in {κ : K} {w : World} {σ σ0 : St} {r : List Nat} (hR : RS κ w σ) (hnd : r.Nodup) (hf : fits σ r σ0 r) (hin : inS σ0 r = true)
    (hal : σ0.all (fun o => o.under (alive σ0)) = true) : RS (via r κ) w σ0 := by
  obtain ⟨hlen, hget⟩ := fits_get hf
  have hs := via_same r κ
  have hlt : ∀ i o, σ0[i]? = some o → i < r.length := fun i o h => by rw [← hlen]; exact (List.getElem?_eq_some_iff.1 h).1
  refine ⟨fun i o ho => hs.inO (hlt i o ho) (hR.obj _ _ (hget i o ho)) (List.all_eq_true.1 hin o (List.mem_of_getElem? ho)), fun i j o o' b h1 h2 hb hb' => ?_, fun i o ho => List.all_eq_true.1 hal o (List.mem_of_getElem? ho), hR.inside⟩
  have hij := hR.inj _ _ _ _ b (hget i o h1) (hget j o' h2) (by rw [hs.block (hlt i o h1)]; exact hb) (by rw [hs.block (hlt j o' h2)]; exact hb')
  exact (List.getElem?_inj (hlt i o h1) hnd).1 (by rw [rn_get (hlt i o h1), rn_get (hlt j o' h2), hij])

theorem blockOf_live {κ : K} {w : World} {id : Nat} {o : Ob} {b : Nat} (h : RO κ w id o) (hb : blockOf κ id o = some b) : b < w.heap.size := by
  cases o with
  | dead => simp [blockOf] at hb
  | var cs =>
    obtain ⟨b', c, T, h1, h2, _⟩ := h
    simp only [blockOf, h1, Option.some.injEq] at hb; subst hb
    exact (Array.getElem?_eq_some_iff.1 h2).1
  | map es =>
    obtain ⟨b', ents, clock, h1, h2, _⟩ := h
    simp only [blockOf, h1, Option.some.injEq] at hb; subst hb
    exact (Array.getElem?_eq_some_iff.1 h2).1
  | arr ep m sz rows =>
    obtain ⟨_, h3⟩ := h
    rcases h3 with ⟨h3, _⟩ | ⟨b', cap, c, T, g1, g2, _⟩
    · simp [blockOf, h3, nilSlice] at hb
    · simp only [blockOf, g1, Option.some.injEq] at hb; subst hb
      exact (Array.getElem?_eq_some_iff.1 g2).1

theorem RO.frame {κ κ' : K} {w w' : World} {σ : St} {id : Nat} {o : Ob} (hst : Stays κ w κ' w' (alive σ)) (hin : o.under (alive σ) = true) (hal : o = .dead ∨ alive σ id = true) (h : RO κ w id o)
    (hat : κ'.at_ id = κ.at_ id) (hsl : ∀ ep l, κ'.sl id ep l = κ.sl id ep l)
    (hheap : ∀ b, blockOf κ id o = some b → w'.heap[b]? = w.heap[b]?) (hS : ∀ b, blockOf κ id o = some b → ∀ o, κ'.S b o ↔ κ.S b o) : RO κ' w' id o := by
  cases o with
  | dead => trivial
  | var cs =>
    obtain ⟨b, c, T, h1, h2, h3, h4⟩ := h
    have hb : blockOf κ id (.var cs) = some b := h1
    exact ⟨b, c, T, by rw [hat]; exact h1, by rw [hheap b hb]; exact h2, h3.stays hst hin, fun o h => h4 o ((hS b hb o).1 h)⟩
  | map es =>
    obtain ⟨b, ents, clock, h1, h2, h3, h4, h5⟩ := h
    have hb : blockOf κ id (.map es) = some b := h1
    refine ⟨b, ents, clock, by rw [hat]; exact h1, by rw [hheap b hb]; exact h2, h3, fun o h => h4 o ((hS b hb o).1 h), fun j k x hj => ?_⟩
    obtain ⟨e, e1, e2, e3⟩ := h5 j k x hj
    simp only [Ob.under, List.all_eq_true] at hin
    exact ⟨e, e1, e2, e3.stays hst (hin _ (List.mem_of_getElem? hj))⟩
  | arr ep m sz rows =>
    obtain ⟨⟨h1, h2⟩, h3⟩ := h
    refine ⟨⟨h1, fun ep' l v hv => h2 ep' l v (by rw [← hsl]; exact hv)⟩, ?_⟩
    rcases h3 with ⟨h3, h4⟩ | ⟨b, cap, c, T, g1, g2, g3, g4, g5, g6, g7⟩
    · exact .inl ⟨by rw [hsl]; exact h3, h4⟩
    · have hb : blockOf κ id (.arr ep m sz rows) = some b := by simp [blockOf, g1]
      refine .inr ⟨b, cap, c, T, by rw [hsl]; exact g1, by rw [hheap b hb]; exact g2, g3, g4, fun i j row d a1 a2 => ?_, fun hm o h => g6 hm o ((hS b hb o).1 h), fun hm o => by rw [hS b hb]; exact g7 hm o⟩
      obtain ⟨v, b1, b2⟩ := g5 i j row d a1 a2
      exact ⟨v, b1, b2.mono hst.S hst.keep⟩

theorem call_out {κ κ0' : K} {w w' : World} {σ σ0 σ0' : St} {r : List Nat} (hR : RS κ w σ) (hnd : r.Nodup) (hf : fits σ r σ0 r)
    (hev : Evo (via r κ) w σ0 κ0' w' σ0') (hR' : RS κ0' w' σ0') :
    Evo κ w σ (back (allIds σ r σ0') κ κ0') w' (merge σ r σ0') ∧ RS (back (allIds σ r σ0') κ κ0') w' (merge σ r σ0') ∧ Same (allIds σ r σ0') κ0' (back (allIds σ r σ0') κ κ0') ∧
      (∀ i, alive σ0' i = true → alive (merge σ r σ0') (rn (allIds σ r σ0') i) = true) ∧ (allIds σ r σ0').length = σ0'.length := by
  obtain ⟨hlen, hget⟩ := fits_get hf
  have hl : r.length ≤ σ0'.length := by rw [← hlen]; exact hev.len
  have hRl := allIds_length (σ := σ) hl
  have hlt : ∀ x ∈ r, x < σ.length := by
    intro x hx
    obtain ⟨i, hi⟩ := List.mem_iff_getElem?.1 hx
    have hi' : i < r.length := (List.getElem?_eq_some_iff.1 hi).1
    have h1 : i < σ0.length := by omega
    have := hget i σ0[i] (List.getElem?_eq_getElem h1)
    have hx' : rn r i = x := by rw [rn_get hi'] at hi; exact Option.some.inj hi
    rw [hx'] at this
    exact (List.getElem?_eq_some_iff.1 this).1
  have hs := back_same (R := allIds σ r σ0') κ κ0' (fun i j hi hj h => allIds_inj hnd hlt hl (by omega) (by omega) h)
  have hvia := via_same r κ
  -- who owns
  have ownIn : ∀ b, own (via r κ) σ0 b → own κ σ b := by
    rintro b ⟨i, o, h1, h2⟩
    have hi : i < r.length := by rw [← hlen]; exact (List.getElem?_eq_some_iff.1 h1).1
    exact ⟨rn r i, rnO r o, hget i o h1, by rw [hvia.block hi]; exact h2⟩
  have notR : ∀ id, id ∉ r → id < σ.length → ∀ i, i < (allIds σ r σ0').length → rn (allIds σ r σ0') i ≠ id := by
    intro id h1 h2 i hi he
    by_cases h : i < r.length
    · rw [allIds_old h] at he; exact h1 (he ▸ mem_rn h)
    · obtain ⟨j, rfl⟩ : ∃ j, i = r.length + j := ⟨i - r.length, by omega⟩
      rw [allIds_new hl (by omega)] at he; omega
  -- blocks of the caller's others
  have frameB : ∀ id o b, id ∉ r → σ[id]? = some o → blockOf κ id o = some b → b < w.heap.size ∧ ¬ own (via r κ) σ0 b := by
    intro id o b h1 h2 h3
    refine ⟨blockOf_live (hR.obj _ _ h2) h3, ?_⟩
    rintro ⟨i, o', h4, h5⟩
    have hi : i < r.length := by rw [← hlen]; exact (List.getElem?_eq_some_iff.1 h4).1
    have := hR.inj _ _ _ _ b (hget i o' h4) h2 (by rw [hvia.block hi]; exact h5) h3
    exact h1 (this ▸ mem_rn hi)
  have hst : Stays κ w (back (allIds σ r σ0') κ κ0') w' (alive σ) := by
    refine ⟨fun b o h => hev.S b o h, fun b o h => hev.keep b o h, fun id hid => ?_, fun id ep len v hid hv => ?_⟩
    · by_cases h1 : id ∈ r
      · obtain ⟨i, hi⟩ := List.mem_iff_getElem?.1 h1
        have hi' : i < r.length := (List.getElem?_eq_some_iff.1 hi).1
        have hx : rn r i = id := by rw [rn_get hi'] at hi; exact Option.some.inj hi
        have ha : alive σ0 i = true := by
          have h2 : i < σ0.length := by omega
          obtain ⟨o, h3, h4⟩ := alive_iff.1 hid
          have h5 := hget i σ0[i] (List.getElem?_eq_getElem h2)
          rw [hx, h3] at h5
          refine alive_iff.2 ⟨σ0[i], List.getElem?_eq_getElem h2, fun hd => h4 ?_⟩
          rw [hd] at h5; exact (Option.some.inj h5)
        have := hs.at_ i (by omega)
        rw [allIds_old hi', hx] at this
        rw [← this, hev.at_ i ha, hvia.at_ i hi', hx]
      · exact (back_other κ κ0' (notR id h1 (alive_lt hid))).1
    · by_cases h1 : id ∈ r
      · obtain ⟨i, hi⟩ := List.mem_iff_getElem?.1 h1
        have hi' : i < r.length := (List.getElem?_eq_some_iff.1 hi).1
        have hx : rn r i = id := by rw [rn_get hi'] at hi; exact Option.some.inj hi
        have ha : alive σ0 i = true := by
          have h2 : i < σ0.length := by omega
          obtain ⟨o, h3, h4⟩ := alive_iff.1 hid
          have h5 := hget i σ0[i] (List.getElem?_eq_getElem h2)
          rw [hx, h3] at h5
          refine alive_iff.2 ⟨σ0[i], List.getElem?_eq_getElem h2, fun hd => h4 ?_⟩
          rw [hd] at h5; exact (Option.some.inj h5)
        have := hs.sl i ep len (by omega)
        rw [allIds_old hi', hx] at this
        rw [← this]
        exact hev.sl i ep len v ha (by rw [hvia.sl i ep len hi', hx]; exact hv)
      · rw [(back_other κ κ0' (notR id h1 (alive_lt hid))).2]; exact hv
  have hlive0 : ∀ i, alive σ0' i = true → alive (merge σ r σ0') (rn (allIds σ r σ0') i) = true := by
    intro i hi
    obtain ⟨o, h1, h2⟩ := alive_iff.1 hi
    have h3 := merge_at hnd hlt hl (i := i) (List.getElem?_eq_some_iff.1 h1).1
    rw [h1] at h3
    exact alive_iff.2 ⟨_, h3, by cases o <;> simp_all [rnO]⟩
  have hlive : ∀ id, alive σ id = true → alive (merge σ r σ0') id = true := by
    intro id hid
    by_cases h1 : id ∈ r
    · obtain ⟨i, hi⟩ := List.mem_iff_getElem?.1 h1
      have hi' : i < r.length := (List.getElem?_eq_some_iff.1 hi).1
      have hx : rn r i = id := by rw [rn_get hi'] at hi; exact Option.some.inj hi
      have ha : alive σ0 i = true := by
        have h2 : i < σ0.length := by omega
        obtain ⟨o, h3, h4⟩ := alive_iff.1 hid
        have h5 := hget i σ0[i] (List.getElem?_eq_getElem h2)
        rw [hx, h3] at h5
        refine alive_iff.2 ⟨σ0[i], List.getElem?_eq_getElem h2, fun hd => h4 ?_⟩
        rw [hd] at h5; exact (Option.some.inj h5)
      have := hlive0 i (hev.live i ha)
      rw [allIds_old hi', hx] at this; exact this
    · obtain ⟨o, h3, h4⟩ := alive_iff.1 hid
      exact alive_iff.2 ⟨o, (merge_other h1 (alive_lt hid)).trans h3, h4⟩
  have hSfr : ∀ id o b, id ∉ r → σ[id]? = some o → blockOf κ id o = some b → ∀ x, (back (allIds σ r σ0') κ κ0').S b x ↔ κ.S b x := by
    intro id o b h1 h2 h3 x
    obtain ⟨h4, h5⟩ := frameB id o b h1 h2 h3
    refine ⟨fun h => ?_, fun h => hev.S b x h⟩
    rcases hev.fresh b x h with h6 | h6 | h6
    · exact h6
    · exact absurd h6 h5
    · omega
  have hunderR : ∀ (i : Nat) (o0 : Ob), σ0'[i]? = some o0 → o0.under (inR (allIds σ r σ0')) = true := fun i o0 h =>
    Ob.under_mono (fun j hj => inR_lt.2 (by rw [hRl]; exact alive_lt hj)) (hR'.inner i o0 h)
  have hown' : ∀ b, own (back (allIds σ r σ0') κ κ0') (merge σ r σ0') b → own κ0' σ0' b ∨ (∃ id o, id ∉ r ∧ σ[id]? = some o ∧ blockOf κ id o = some b) := by
    rintro b ⟨id, o, h1, h2⟩
    rcases merge_cases hnd hlt hl h1 with ⟨i, o0, g1, rfl, g3, rfl⟩ | ⟨g1, g2, g3⟩
    · exact .inl ⟨i, o0, g3, by rw [hs.block (by omega)] at h2; exact h2⟩
    · refine .inr ⟨id, o, g1, g3, ?_⟩
      obtain ⟨e1, e2⟩ := back_other κ κ0' (notR id g1 g2)
      rw [← h2]; cases o <;> simp [blockOf, e1, e2]
  refine ⟨⟨hst.S, hst.keep, hst.at_, hst.sl, hlive, fun b o h => ?_, fun b hb hno => hev.frame b hb fun h => hno (ownIn b h), fun b hb => ?_, hev.size, hev.os, hev.tape, hev.output, by rw [merge_length hl]; omega⟩, ⟨fun id o ho => ?_, fun id id' o o' b h1 h2 hb hb' => ?_, fun id o ho => ?_, fun b o h => hR'.inside b o h⟩, hs, hlive0, hRl⟩
  · rcases hev.fresh b o h with h1 | h1 | h1
    · exact .inl h1
    · exact .inr (.inl (ownIn b h1))
    · exact .inr (.inr h1)
  · rcases hown' b hb with h1 | ⟨id, o, h1, h2, h3⟩
    · rcases hev.owned b h1 with h2 | h2
      · exact .inl (ownIn b h2)
      · exact .inr h2
    · exact .inl ⟨id, o, h2, h3⟩
  · rcases merge_cases hnd hlt hl ho with ⟨i, o0, g1, rfl, g3, rfl⟩ | ⟨g1, g2, g3⟩
    · exact hs.outO (by omega) (hR'.obj i o0 g3) (hunderR i o0 g3)
    · obtain ⟨e1, e2⟩ := back_other κ κ0' (notR id g1 g2)
      refine RO.frame hst (hR.inner id o g3) ?_ (hR.obj id o g3) e1 e2 (fun b hb => hev.frame b (frameB id o b g1 g3 hb).1 (frameB id o b g1 g3 hb).2) (hSfr id o · g1 g3)
      cases o with
      | dead => exact .inl rfl
      | _ => exact .inr (alive_iff.2 ⟨_, g3, by simp⟩)
  · rcases merge_cases hnd hlt hl h1 with ⟨i, o0, g1, rfl, g3, rfl⟩ | ⟨g1, g2, g3⟩
    · rw [hs.block (by omega)] at hb
      rcases merge_cases hnd hlt hl h2 with ⟨j, o1, k1, rfl, k3, rfl⟩ | ⟨k1, k2, k3⟩
      · rw [hs.block (by omega)] at hb'
        rw [hR'.inj i j o0 o1 b g3 k3 hb hb']
      · exfalso
        obtain ⟨e1, e2⟩ := back_other κ κ0' (notR id' k1 k2)
        have hb2 : blockOf κ id' o' = some b := by rw [← hb']; cases o' <;> simp [blockOf, e1, e2]
        obtain ⟨q1, q2⟩ := frameB id' o' b k1 k3 hb2
        rcases hev.owned b ⟨i, o0, g3, hb⟩ with h3 | h3
        · exact q2 h3
        · omega
    · obtain ⟨e1, e2⟩ := back_other κ κ0' (notR id g1 g2)
      have hb1 : blockOf κ id o = some b := by rw [← hb]; cases o <;> simp [blockOf, e1, e2]
      rcases merge_cases hnd hlt hl h2 with ⟨j, o1, k1, rfl, k3, rfl⟩ | ⟨k1, k2, k3⟩
      · exfalso
        rw [hs.block (by omega)] at hb'
        obtain ⟨q1, q2⟩ := frameB id o b g1 g3 hb1
        rcases hev.owned b ⟨j, o1, k3, hb'⟩ with h3 | h3
        · exact q2 h3
        · omega
      · obtain ⟨e1', e2'⟩ := back_other κ κ0' (notR id' k1 k2)
        have hb2 : blockOf κ id' o' = some b := by rw [← hb']; cases o' <;> simp [blockOf, e1', e2']
        exact hR.inj _ _ _ _ b g3 k3 hb1 hb2
  · rcases merge_cases hnd hlt hl ho with ⟨i, o0, g1, rfl, g3, rfl⟩ | ⟨g1, g2, g3⟩
    · exact rnO_under hlive0 (hR'.inner i o0 g3)
    · exact Ob.under_mono hlive (hR.inner id o g3)
end Go.Am
