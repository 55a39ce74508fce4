/- A part of a proof: functions of the program walked over the abstract machine, and what they compute. -/
import Derived.Test.YtjjhckmnnaafkaaDoorPAmG
set_option linter.unusedVariables false
set_option linter.unusedSimpArgs false
/- The abstract machine: calls that hand references on: the callee's objects are some of the caller's, under other names. -/
namespace Go.Am
/-- the callee's object i is the caller's object r[i] -/
def rn : List Nat → Nat → Nat
  | [], _ => 0
  | x :: _, 0 => x
  | _ :: r, i + 1 => rn r i
mutual
def rnC (r : List Nat) : Cell → Cell
  | .d x => .d x
  | .arr id ep len => .arr (rn r id) ep len
  | .ptr id off => .ptr (rn r id) off
  | .eptr id ep len sz idx off => .eptr (rn r id) ep len sz idx off
  | .rptr cs => .rptr cs
  | .map id => .map (rn r id)
  | .fn f a b => .fn f (rnCs r a) (rnCs r b)
def rnCs (r : List Nat) : List Cell → List Cell
  | [] => []
  | c :: cs => rnC r c :: rnCs r cs
end
def rnF (r : List Nat) : FV → FV
  | .one c => .one (rnC r c)
  | .agg cs => .agg (rnCs r cs)
def rnFs (r : List Nat) : List FV → List FV
  | [] => []
  | x :: xs => rnF r x :: rnFs r xs
def rnV (r : List Nat) : V → V
  | .one c => .one (rnC r c)
  | .agg cs => .agg (rnCs r cs)
  | .tup xs => .tup (rnFs r xs)
  | .undef => .undef
def rnVs (r : List Nat) : List V → List V
  | [] => []
  | v :: vs => rnV r v :: rnVs r vs
def rnEs (r : List Nat) : List (Value × FV) → List (Value × FV)
  | [] => []
  | (k, x) :: es => (k, rnF r x) :: rnEs r es
def rnO (r : List Nat) : Ob → Ob
  | .var cs => .var (rnCs r cs)
  | .arr a b c d => .arr a b c d
  | .map es => .map (rnEs r es)
  | .dead => .dead
def rnS (r : List Nat) : St → St
  | [] => []
  | o :: os => rnO r o :: rnS r os
theorem rn_get : ∀ {r : List Nat} {i : Nat}, i < r.length → r[i]? = some (rn r i)
  | [], i, h => by simp at h
  | x :: r, 0, _ => rfl
  | x :: r, i + 1, h => by simpa [rn] using rn_get (r := r) (i := i) (by simpa using h)
theorem rn_append {r s : List Nat} : ∀ {i : Nat}, i < r.length → rn (r ++ s) i = rn r i := by
  intro i h
  have h1 : (r ++ s)[i]? = some (rn (r ++ s) i) := rn_get (by simp; omega)
  rw [List.getElem?_append_left h, rn_get h] at h1
  exact (Option.some.inj h1).symm
theorem rnCs_length (r : List Nat) : ∀ cs, (rnCs r cs).length = cs.length
  | [] => rfl
  | c :: cs => by simp [rnCs, rnCs_length r cs]
theorem rnCs_get (r : List Nat) : ∀ (cs : List Cell) (i : Nat), (rnCs r cs)[i]? = cs[i]?.map (rnC r)
  | [], i => by simp [rnCs]
  | c :: cs, 0 => by simp [rnCs]
  | c :: cs, i + 1 => by simpa [rnCs] using rnCs_get r cs i
theorem rnFs_length (r : List Nat) : ∀ cs, (rnFs r cs).length = cs.length
  | [] => rfl
  | c :: cs => by simp [rnFs, rnFs_length r cs]
theorem rnFs_get (r : List Nat) : ∀ (cs : List FV) (i : Nat), (rnFs r cs)[i]? = cs[i]?.map (rnF r)
  | [], i => by simp [rnFs]
  | c :: cs, 0 => by simp [rnFs]
  | c :: cs, i + 1 => by simpa [rnFs] using rnFs_get r cs i
theorem rnVs_length (r : List Nat) : ∀ cs, (rnVs r cs).length = cs.length
  | [] => rfl
  | c :: cs => by simp [rnVs, rnVs_length r cs]
theorem rnVs_get (r : List Nat) : ∀ (cs : List V) (i : Nat), (rnVs r cs)[i]? = cs[i]?.map (rnV r)
  | [], i => by simp [rnVs]
  | c :: cs, 0 => by simp [rnVs]
  | c :: cs, i + 1 => by simpa [rnVs] using rnVs_get r cs i
theorem rnEs_length (r : List Nat) : ∀ cs, (rnEs r cs).length = cs.length
  | [] => rfl
  | (k, c) :: cs => by simp [rnEs, rnEs_length r cs]
theorem rnEs_get (r : List Nat) : ∀ (cs : List (Value × FV)) (i : Nat), (rnEs r cs)[i]? = cs[i]?.map (fun p => (p.1, rnF r p.2))
  | [], i => by simp [rnEs]
  | (k, c) :: cs, 0 => by simp [rnEs]
  | (k, c) :: cs, i + 1 => by simpa [rnEs] using rnEs_get r cs i
theorem rnS_get (r : List Nat) : ∀ (cs : St) (i : Nat), (rnS r cs)[i]? = cs[i]?.map (rnO r)
  | [], i => by simp [rnS]
  | c :: cs, 0 => by simp [rnS]
  | c :: cs, i + 1 => by simpa [rnS] using rnS_get r cs i
theorem rnS_length (r : List Nat) : ∀ cs, (rnS r cs).length = cs.length
  | [] => rfl
  | c :: cs => by simp [rnS, rnS_length r cs]
/-- two ghosts that speak of the same objects under other names -/
structure Same (r : List Nat) (κ0 κ : K) : Prop where
  S : ∀ b o, κ0.S b o ↔ κ.S b o
  at_ : ∀ i, i < r.length → κ0.at_ i = κ.at_ (rn r i)
  sl : ∀ i ep l, i < r.length → κ0.sl i ep l = κ.sl (rn r i) ep l
def inR (r : List Nat) : Nat → Bool := fun i => Nat.blt i r.length
theorem inR_lt {r : List Nat} {i : Nat} : inR r i = true ↔ i < r.length := by
  unfold inR; exact ⟨fun h => Nat.le_of_ble_eq_true h, fun h => Nat.ble_eq_true_of_le h⟩
theorem Same.dat {r κ0 κ w d v} (hs : Same r κ0 κ) (h : RD κ0.S w d v) : RD κ.S w d v := h.mono (fun b o h => (hs.S b o).1 h) (fun _ _ _ => rfl)
theorem Same.dat' {r κ0 κ w d v} (hs : Same r κ0 κ) (h : RD κ.S w d v) : RD κ0.S w d v := h.mono (fun b o h => (hs.S b o).2 h) (fun _ _ _ => rfl)
theorem Same.out {r κ0 κ w} (hs : Same r κ0 κ) {c : Cell} {v : Value} (h : RC κ0 w c v) (hu : c.under (inR r) = true) : RC κ w (rnC r c) v := by
  induction h with
  | d x v h => exact .d x v (hs.dat h)
  | arr id ep len a cap h => exact .arr _ _ _ a cap (by rw [← hs.sl _ _ _ (inR_lt.1 (by simpa [Cell.under] using hu))]; exact h)
  | ptr id off b h => exact .ptr _ _ b (by rw [← hs.at_ _ (inR_lt.1 (by simpa [Cell.under] using hu))]; exact h)
  | eptr id ep len sz idx off b cap h => exact .eptr _ _ _ _ _ _ b cap (by rw [← hs.sl _ _ _ (inR_lt.1 (by simpa [Cell.under] using hu))]; exact h)
  | rptr ds b off h =>
    refine .rptr ds b off fun j d hj => ?_
    obtain ⟨h1, v, h2, h3⟩ := h j d hj
    exact ⟨(hs.S _ _).1 h1, v, h2, hs.dat h3⟩
  | map id b h => exact .map _ b (by rw [← hs.at_ _ (inR_lt.1 (by simpa [Cell.under] using hu))]; exact h)
  | fn f fs cs xs ys hx hy h h' ih ih' =>
    simp only [Cell.under, Bool.and_eq_true] at hu
    refine .fn f _ _ xs ys (by rw [rnCs_length]; exact hx) (by rw [rnCs_length]; exact hy) (fun i c hc => ?_) (fun i c hc => ?_)
    · rw [rnCs_get, Option.map_eq_some_iff] at hc
      obtain ⟨c0, h1, rfl⟩ := hc
      exact ih i c0 h1 (under_of_mem hu.1 i c0 h1)
    · rw [rnCs_get, Option.map_eq_some_iff] at hc
      obtain ⟨c0, h1, rfl⟩ := hc
      exact ih' i c0 h1 (under_of_mem hu.2 i c0 h1)
theorem Same.in_ {r κ0 κ w} (hs : Same r κ0 κ) {c' : Cell} {v : Value} (h : RC κ w c' v) : ∀ {c : Cell}, c' = rnC r c → c.under (inR r) = true → RC κ0 w c v := by
  induction h with
  | d x v h => intro c hc hu; cases c <;> simp [rnC] at hc; subst hc; exact .d _ v (hs.dat' h)
  | arr id ep len a cap h =>
    intro c hc hu; cases c <;> simp [rnC] at hc
    obtain ⟨rfl, rfl, rfl⟩ := hc
    exact .arr _ _ _ a cap (by rw [hs.sl _ _ _ (inR_lt.1 (by simpa [Cell.under] using hu))]; exact h)
  | ptr id off b h =>
    intro c hc hu; cases c <;> simp [rnC] at hc
    obtain ⟨rfl, rfl⟩ := hc
    exact .ptr _ _ b (by rw [hs.at_ _ (inR_lt.1 (by simpa [Cell.under] using hu))]; exact h)
  | eptr id ep len sz idx off b cap h =>
    intro c hc hu; cases c <;> simp [rnC] at hc
    obtain ⟨rfl, rfl, rfl, rfl, rfl, rfl⟩ := hc
    exact .eptr _ _ _ _ _ _ b cap (by rw [hs.sl _ _ _ (inR_lt.1 (by simpa [Cell.under] using hu))]; exact h)
  | rptr ds b off h =>
    intro c hc hu; cases c <;> simp [rnC] at hc
    subst hc
    refine .rptr _ b off fun j d hj => ?_
    obtain ⟨h1, v, h2, h3⟩ := h j d hj
    exact ⟨(hs.S _ _).2 h1, v, h2, hs.dat' h3⟩
  | map id b h =>
    intro c hc hu; cases c <;> simp [rnC] at hc
    subst hc
    exact .map _ b (by rw [hs.at_ _ (inR_lt.1 (by simpa [Cell.under] using hu))]; exact h)
  | fn f fs cs xs ys hx hy h h' ih ih' =>
    intro c hc hu; cases c <;> simp [rnC] at hc
    obtain ⟨rfl, rfl, rfl⟩ := hc
    simp only [Cell.under, Bool.and_eq_true] at hu
    refine .fn f _ _ xs ys (by rw [rnCs_length] at hx; exact hx) (by rw [rnCs_length] at hy; exact hy) (fun i c hc => ?_) (fun i c hc => ?_)
    · exact ih i (rnC r c) (by rw [rnCs_get, hc]; rfl) rfl (under_of_mem hu.1 i c hc)
    · exact ih' i (rnC r c) (by rw [rnCs_get, hc]; rfl) rfl (under_of_mem hu.2 i c hc)
theorem Same.outs {r κ0 κ w} (hs : Same r κ0 κ) {cs : List Cell} {vs : List Value} (h : RCs κ0 w cs vs) (hu : underAll (inR r) cs = true) : RCs κ w (rnCs r cs) vs :=
  ⟨by rw [rnCs_length]; exact h.1, fun i c v hc hv => by
    rw [rnCs_get, Option.map_eq_some_iff] at hc
    obtain ⟨c0, h1, rfl⟩ := hc
    exact hs.out (h.2 i c0 v h1 hv) (under_of_mem hu i c0 h1)⟩
theorem Same.ins {r κ0 κ w} (hs : Same r κ0 κ) {cs : List Cell} {vs : List Value} (h : RCs κ w (rnCs r cs) vs) (hu : underAll (inR r) cs = true) : RCs κ0 w cs vs :=
  ⟨by rw [← rnCs_length r]; exact h.1, fun i c v hc hv => hs.in_ (h.2 i (rnC r c) v (by rw [rnCs_get, hc]; rfl) hv) rfl (under_of_mem hu i c hc)⟩
theorem Same.outF {r κ0 κ w} (hs : Same r κ0 κ) {x : FV} {v : Value} (h : RF κ0 w x v) (hu : x.under (inR r) = true) : RF κ w (rnF r x) v := by
  cases h with
  | one c v h => exact .one _ _ (hs.out h hu)
  | agg cs vs h => exact .agg _ _ (hs.outs h hu)
theorem Same.inF {r κ0 κ w} (hs : Same r κ0 κ) {x : FV} {v : Value} (h : RF κ w (rnF r x) v) (hu : x.under (inR r) = true) : RF κ0 w x v := by
  cases x with
  | one c => cases h with | one _ _ h => exact .one _ _ (hs.in_ h rfl hu)
  | agg cs => cases h with | agg _ _ h => exact .agg _ _ (hs.ins h hu)
theorem Same.outV {r κ0 κ w} (hs : Same r κ0 κ) {x : V} {v : Value} (h : RV κ0 w x v) (hu : x.under (inR r) = true) : RV κ w (rnV r x) v := by
  cases h with
  | one c v h => exact .one _ _ (hs.out h hu)
  | agg cs vs h => exact .agg _ _ (hs.outs h hu)
  | undef => exact .undef
  | tup xs vs hn h =>
    refine .tup _ _ (by rw [rnFs_length]; exact hn) fun i x v hx hv => ?_
    rw [rnFs_get, Option.map_eq_some_iff] at hx
    obtain ⟨x0, h1, rfl⟩ := hx
    simp only [V.under, List.all_eq_true] at hu
    exact hs.outF (h i x0 v h1 hv) (hu x0 (List.mem_of_getElem? h1))
theorem Same.inV {r κ0 κ w} (hs : Same r κ0 κ) {x : V} {v : Value} (h : RV κ w (rnV r x) v) (hu : x.under (inR r) = true) : RV κ0 w x v := by
  cases x with
  | one c => cases h with | one _ _ h => exact .one _ _ (hs.in_ h rfl hu)
  | agg cs => cases h with | agg _ _ h => exact .agg _ _ (hs.ins h hu)
  | undef => cases h; exact .undef
  | tup xs =>
    cases h with | tup _ vs hn h =>
    refine .tup _ _ (by rw [← rnFs_length r]; exact hn) fun i x v hx hv => ?_
    simp only [V.under, List.all_eq_true] at hu
    exact hs.inF (h i (rnF r x) v (by rw [rnFs_get, hx]; rfl) hv) (hu x (List.mem_of_getElem? hx))
theorem rnC_under {r : List Nat} {L M : Nat → Bool} (hL : ∀ i, M i = true → L (rn r i) = true) : ∀ {c : Cell}, c.under M = true → (rnC r c).under L = true
  | .d x, _ => rfl
  | .rptr cs, _ => rfl
  | .arr id ep len, h => hL _ h
  | .ptr id off, h => hL _ h
  | .eptr id ep len sz idx off, h => hL _ h
  | .map id, h => hL _ h
  | .fn f a b, h => by
    simp only [Cell.under, Bool.and_eq_true, rnC] at h ⊢
    exact ⟨go hL a h.1, go hL b h.2⟩
where go {r : List Nat} {L M : Nat → Bool} (hL : ∀ i, M i = true → L (rn r i) = true) : ∀ cs : List Cell, underAll M cs = true → underAll L (rnCs r cs) = true
  | [], _ => rfl
  | c :: cs, h => by
    simp only [underAll, Bool.and_eq_true, rnCs] at h ⊢
    exact ⟨rnC_under hL h.1, go hL cs h.2⟩
theorem rnCs_under {r : List Nat} {L M : Nat → Bool} (hL : ∀ i, M i = true → L (rn r i) = true) {cs : List Cell} (h : underAll M cs = true) : underAll L (rnCs r cs) = true := rnC_under.go hL cs h
theorem rnF_under {r : List Nat} {L M : Nat → Bool} (hL : ∀ i, M i = true → L (rn r i) = true) {x : FV} (h : x.under M = true) : (rnF r x).under L = true := by
  cases x with
  | one c => exact rnC_under hL h
  | agg cs => exact rnCs_under hL h
theorem rnV_under {r : List Nat} {L M : Nat → Bool} (hL : ∀ i, M i = true → L (rn r i) = true) {x : V} (h : x.under M = true) : (rnV r x).under L = true := by
  cases x with
  | one c => exact rnC_under hL h
  | agg cs => exact rnCs_under hL h
  | undef => rfl
  | tup xs =>
    simp only [V.under, rnV, List.all_eq_true] at h ⊢
    intro y hy
    obtain ⟨i, hi⟩ := List.mem_iff_getElem?.1 hy
    rw [rnFs_get, Option.map_eq_some_iff] at hi
    obtain ⟨x0, h1, rfl⟩ := hi
    exact rnF_under hL (h x0 (List.mem_of_getElem? h1))
theorem rnO_under {r : List Nat} {L M : Nat → Bool} (hL : ∀ i, M i = true → L (rn r i) = true) {x : Ob} (h : x.under M = true) : (rnO r x).under L = true := by
  cases x with
  | var cs => exact rnCs_under hL h
  | arr a b c d => rfl
  | dead => rfl
  | map es =>
    simp only [Ob.under, rnO, List.all_eq_true] at h ⊢
    intro y hy
    obtain ⟨i, hi⟩ := List.mem_iff_getElem?.1 hy
    rw [rnEs_get, Option.map_eq_some_iff] at hi
    obtain ⟨x0, h1, rfl⟩ := hi
    exact rnF_under hL (h x0 (List.mem_of_getElem? h1))
theorem Same.outO {r κ0 κ w} (hs : Same r κ0 κ) {i : Nat} (hi : i < r.length) {o : Ob} (h : RO κ0 w i o) (hu : o.under (inR r) = true) : RO κ w (rn r i) (rnO r o) := by
  cases o with
  | dead => trivial
  | var cs =>
    obtain ⟨b, c, T, h1, h2, h3, h4⟩ := h
    exact ⟨b, c, T, by rw [← hs.at_ i hi]; exact h1, h2, hs.outs h3 hu, fun o h => h4 o ((hs.S _ _).2 h)⟩
  | map es =>
    obtain ⟨b, ents, clock, h1, h2, h3, h4, h5⟩ := h
    refine ⟨b, ents, clock, by rw [← hs.at_ i hi]; exact h1, h2, by rw [rnEs_length]; exact h3, fun o h => h4 o ((hs.S _ _).2 h), fun j k x hj => ?_⟩
    rw [rnEs_get, Option.map_eq_some_iff] at hj
    obtain ⟨⟨k0, x0⟩, g1, g2⟩ := hj
    simp only [Prod.mk.injEq] at g2
    obtain ⟨rfl, rfl⟩ := g2
    obtain ⟨e, e1, e2, e3⟩ := h5 j k0 x0 g1
    simp only [Ob.under, List.all_eq_true] at hu
    exact ⟨e, e1, e2, hs.outF e3 (hu _ (List.mem_of_getElem? g1))⟩
  | arr ep m sz rows =>
    obtain ⟨⟨h1, h2⟩, h3⟩ := h
    refine ⟨⟨h1, fun ep' l v hv => h2 ep' l v (by rw [hs.sl _ _ _ hi]; exact hv)⟩, ?_⟩
    rcases h3 with ⟨h3, h4⟩ | ⟨b, cap, c, T, g1, g2, g3, g4, g5, g6, g7⟩
    · exact .inl ⟨by rw [← hs.sl _ _ _ hi]; exact h3, h4⟩
    · refine .inr ⟨b, cap, c, T, by rw [← hs.sl _ _ _ hi]; exact g1, g2, g3, g4, fun i j row d a1 a2 => ?_, fun hm o h => g6 hm o ((hs.S _ _).2 h), fun hm o => by rw [← hs.S]; exact g7 hm o⟩
      obtain ⟨v, b1, b2⟩ := g5 i j row d a1 a2
      exact ⟨v, b1, hs.dat b2⟩
theorem Same.inO {r κ0 κ w} (hs : Same r κ0 κ) {i : Nat} (hi : i < r.length) {o : Ob} (h : RO κ w (rn r i) (rnO r o)) (hu : o.under (inR r) = true) : RO κ0 w i o := by
  cases o with
  | dead => trivial
  | var cs =>
    obtain ⟨b, c, T, h1, h2, h3, h4⟩ := h
    exact ⟨b, c, T, by rw [hs.at_ i hi]; exact h1, h2, hs.ins h3 hu, fun o h => h4 o ((hs.S _ _).1 h)⟩
  | map es =>
    obtain ⟨b, ents, clock, h1, h2, h3, h4, h5⟩ := h
    refine ⟨b, ents, clock, by rw [hs.at_ i hi]; exact h1, h2, by rw [← rnEs_length r]; exact h3, fun o h => h4 o ((hs.S _ _).1 h), fun j k x hj => ?_⟩
    obtain ⟨e, e1, e2, e3⟩ := h5 j k (rnF r x) (by rw [rnEs_get, hj]; rfl)
    simp only [Ob.under, List.all_eq_true] at hu
    exact ⟨e, e1, e2, hs.inF e3 (hu _ (List.mem_of_getElem? hj))⟩
  | arr ep m sz rows =>
    obtain ⟨⟨h1, h2⟩, h3⟩ := h
    refine ⟨⟨h1, fun ep' l v hv => h2 ep' l v (by rw [← hs.sl _ _ _ hi]; exact hv)⟩, ?_⟩
    rcases h3 with ⟨h3, h4⟩ | ⟨b, cap, c, T, g1, g2, g3, g4, g5, g6, g7⟩
    · exact .inl ⟨by rw [hs.sl _ _ _ hi]; exact h3, h4⟩
    · refine .inr ⟨b, cap, c, T, by rw [hs.sl _ _ _ hi]; exact g1, g2, g3, g4, fun i j row d a1 a2 => ?_, fun hm o h => g6 hm o ((hs.S _ _).1 h), fun hm o => by rw [hs.S]; exact g7 hm o⟩
      obtain ⟨v, b1, b2⟩ := g5 i j row d a1 a2
      exact ⟨v, b1, hs.dat' b2⟩
theorem Same.block {r κ0 κ} (hs : Same r κ0 κ) {i : Nat} (hi : i < r.length) (o : Ob) : blockOf κ (rn r i) (rnO r o) = blockOf κ0 i o := by
  cases o <;> simp [blockOf, rnO, hs.at_ i hi, hs.sl _ _ _ hi]
end Go.Am
/- The abstract machine: calls that hand references on: the rules. -/
namespace Go.Am
/-- names for the objects that the callee made -/
def newIds : Nat → St → List Nat
  | _, [] => []
  | n, _ :: t => n :: newIds (n + 1) t
/-- the caller's names of all objects of the callee -/
def allIds (σ : St) (r : List Nat) (σ0 : St) : List Nat := r ++ newIds σ.length (σ0.drop r.length)
def setAll (R : List Nat) : St → List Nat → St → St
  | σ, [], os => σ ++ rnS R os
  | σ, id :: ids, o :: os => setAll R (σ.set id (rnO R o)) ids os
  | σ, _ :: _, [] => σ
/-- the caller's state behind the call -/
def merge (σ : St) (r : List Nat) (σ0 : St) : St := setAll (allIds σ r σ0) σ r σ0
theorem newIds_eq : ∀ (n : Nat) (s : St), newIds n s = List.range' n s.length
  | n, [] => rfl
  | n, _ :: t => by simp [newIds, newIds_eq (n + 1) t, List.range'_succ]
theorem setAll_length (R : List Nat) : ∀ (σ : St) (ids : List Nat) (os : St), ids.length ≤ os.length → (setAll R σ ids os).length = σ.length + (os.length - ids.length)
  | σ, [], os, _ => by simp [setAll, rnS_length]
  | σ, id :: ids, o :: os, h => by
    rw [setAll, setAll_length R _ ids os (by simpa using h)]; simp
  | σ, _ :: _, [], h => by simp at h
theorem setAll_other (R : List Nat) (id : Nat) : ∀ (σ : St) (ids : List Nat) (os : St), id ∉ ids → id < σ.length → (setAll R σ ids os)[id]? = σ[id]?
  | σ, [], os, _, h => by rw [setAll, List.getElem?_append_left h]
  | σ, x :: ids, o :: os, hn, h => by
    simp only [List.mem_cons, not_or] at hn
    rw [setAll, setAll_other R id _ ids os hn.2 (by simpa using h), List.getElem?_set_ne (fun e => hn.1 e.symm)]
  | σ, _ :: _, [], _, _ => rfl
theorem setAll_at (R : List Nat) : ∀ (σ : St) (ids : List Nat) (os : St) (i : Nat), ids.Nodup → (∀ x ∈ ids, x < σ.length) → i < ids.length → ids.length ≤ os.length → (setAll R σ ids os)[rn ids i]? = os[i]?.map (rnO R)
  | σ, [], os, i, _, _, hi, _ => by simp at hi
  | σ, x :: ids, [], i, _, _, _, h => by simp at h
  | σ, x :: ids, o :: os, 0, hnd, hlt, _, _ => by
    rw [List.nodup_cons] at hnd
    rw [setAll, rn, setAll_other R x _ ids os hnd.1 (by simpa using hlt x (by simp)), List.getElem?_set_self (hlt x (by simp))]; rfl
  | σ, x :: ids, o :: os, i + 1, hnd, hlt, hi, hl => by
    rw [List.nodup_cons] at hnd
    rw [setAll, rn, setAll_at R _ ids os i hnd.2 (fun y hy => by simpa using hlt y (by simp [hy])) (by simpa using hi) (by simpa using hl)]; simp
theorem setAll_new (R : List Nat) : ∀ (σ : St) (ids : List Nat) (os : St) (j : Nat), ids.length ≤ os.length → (setAll R σ ids os)[σ.length + j]? = os[ids.length + j]?.map (rnO R)
  | σ, [], os, j, _ => by rw [setAll, List.getElem?_append_right (by omega), rnS_get]; simp
  | σ, x :: ids, [], j, h => by simp at h
  | σ, x :: ids, o :: os, j, h => by
    rw [setAll, show σ.length = (σ.set x (rnO R o)).length from by simp, setAll_new R _ ids os j (by simpa using h)]
    simp only [List.length_cons]
    rw [show ids.length + 1 + j = (ids.length + j) + 1 from by omega]; simp
section
variable {σ σ0' : St} {r : List Nat}
theorem allIds_length (h : r.length ≤ σ0'.length) : (allIds σ r σ0').length = σ0'.length := by simp [allIds, newIds_eq]; omega
theorem rn_range' {n m i : Nat} (h : i < m) : rn (List.range' n m) i = n + i := by
  have := rn_get (r := List.range' n m) (i := i) (by simpa using h)
  rw [List.getElem?_range' h] at this
  simpa using (Option.some.inj this).symm
theorem rn_right {a b : List Nat} {j : Nat} (h : j < b.length) : rn (a ++ b) (a.length + j) = rn b j := by
  have h1 : (a ++ b)[a.length + j]? = some (rn (a ++ b) (a.length + j)) := rn_get (by simp; omega)
  rw [List.getElem?_append_right (by omega), show a.length + j - a.length = j from by omega, rn_get h] at h1
  exact (Option.some.inj h1).symm
theorem allIds_new (h : r.length ≤ σ0'.length) {j : Nat} (hj : r.length + j < σ0'.length) : rn (allIds σ r σ0') (r.length + j) = σ.length + j := by
  rw [allIds, rn_right (by rw [newIds_eq]; simp; omega), newIds_eq, rn_range' (by simp; omega)]
theorem allIds_old {i : Nat} (hi : i < r.length) : rn (allIds σ r σ0') i = rn r i := rn_append hi
theorem mem_rn {i : Nat} (hi : i < r.length) : rn r i ∈ r := List.mem_of_getElem? (rn_get hi)
theorem merge_at (hnd : r.Nodup) (hlt : ∀ x ∈ r, x < σ.length) (hl : r.length ≤ σ0'.length) {i : Nat} (hi : i < σ0'.length) :
    (merge σ r σ0')[rn (allIds σ r σ0') i]? = σ0'[i]?.map (rnO (allIds σ r σ0')) := by
  by_cases h : i < r.length
  · rw [allIds_old h]; exact setAll_at _ _ _ _ _ hnd hlt h hl
  · obtain ⟨j, rfl⟩ : ∃ j, i = r.length + j := ⟨i - r.length, by omega⟩
    rw [allIds_new hl hi]; exact setAll_new _ _ _ _ _ hl
theorem merge_other {id : Nat} (hid : id ∉ r) (hlt : id < σ.length) : (merge σ r σ0')[id]? = σ[id]? := setAll_other _ _ _ _ _ hid hlt
theorem merge_length (hl : r.length ≤ σ0'.length) : (merge σ r σ0').length = σ.length + (σ0'.length - r.length) := setAll_length _ _ _ _ hl
/-- each object of the caller's behind the call is one of the callee's, or one that it had -/
theorem merge_cases (hnd : r.Nodup) (hlt : ∀ x ∈ r, x < σ.length) (hl : r.length ≤ σ0'.length) {id : Nat} {o : Ob} (h : (merge σ r σ0')[id]? = some o) :
    (∃ i o0, i < σ0'.length ∧ id = rn (allIds σ r σ0') i ∧ σ0'[i]? = some o0 ∧ o = rnO (allIds σ r σ0') o0) ∨ (id ∉ r ∧ id < σ.length ∧ σ[id]? = some o) := by
  have hlen := merge_length (σ := σ) hl
  have hid : id < (merge σ r σ0').length := (List.getElem?_eq_some_iff.1 h).1
  have key : ∀ i, i < σ0'.length → id = rn (allIds σ r σ0') i → ∃ i o0, i < σ0'.length ∧ id = rn (allIds σ r σ0') i ∧ σ0'[i]? = some o0 ∧ o = rnO (allIds σ r σ0') o0 := by
    intro i hi hr
    have := merge_at hnd hlt hl hi
    rw [← hr, h, List.getElem?_eq_getElem hi] at this
    simp only [Option.map_some, Option.some.injEq] at this
    exact ⟨i, σ0'[i], hi, hr, List.getElem?_eq_getElem hi, this⟩
  by_cases h1 : id < σ.length
  · by_cases h2 : id ∈ r
    · obtain ⟨i, hi⟩ := List.mem_iff_getElem?.1 h2
      have hlt' : i < r.length := (List.getElem?_eq_some_iff.1 hi).1
      have : rn r i = id := by rw [rn_get hlt'] at hi; exact Option.some.inj hi
      exact .inl (key i (by omega) (by rw [allIds_old hlt', this]))
    · exact .inr ⟨h2, h1, by rw [merge_other h2 h1] at h; exact h⟩
  · obtain ⟨j, rfl⟩ : ∃ j, id = σ.length + j := ⟨id - σ.length, by omega⟩
    exact .inl (key (r.length + j) (by omega) (by rw [allIds_new hl (by omega)]))
theorem allIds_inj (hnd : r.Nodup) (hlt : ∀ x ∈ r, x < σ.length) (hl : r.length ≤ σ0'.length) {i j : Nat} (hi : i < σ0'.length) (hj : j < σ0'.length) (h : rn (allIds σ r σ0') i = rn (allIds σ r σ0') j) : i = j := by
  have hND : (allIds σ r σ0').Nodup := by
    rw [allIds, newIds_eq, List.nodup_append]
    refine ⟨hnd, List.nodup_range', fun a ha b hb => ?_⟩
    have := hlt a ha
    simp at hb; omega
  have hil : i < (allIds σ r σ0').length := by rw [allIds_length hl]; exact hi
  have hjl : j < (allIds σ r σ0').length := by rw [allIds_length hl]; exact hj
  exact (List.getElem?_inj hil hND).1 (by rw [rn_get hil, rn_get hjl, h])
end
open Classical in
/-- the ghost behind the call -/
noncomputable def back (R : List Nat) (κ κ0 : K) : K where
  S := κ0.S
  at_ id := if h : ∃ i, i < R.length ∧ rn R i = id then κ0.at_ h.choose else κ.at_ id
  sl id ep l := if h : ∃ i, i < R.length ∧ rn R i = id then κ0.sl h.choose ep l else κ.sl id ep l
/-- the ghost of the callee -/
def via (r : List Nat) (κ : K) : K where
  S := κ.S
  at_ i := bif inR r i then κ.at_ (rn r i) else none
  sl i ep l := bif inR r i then κ.sl (rn r i) ep l else none
theorem via_same (r : List Nat) (κ : K) : Same r (via r κ) κ :=
  ⟨fun _ _ => Iff.rfl, fun i hi => by simp [via, inR_lt.2 hi], fun i ep l hi => by simp [via, inR_lt.2 hi]⟩
theorem back_same {R : List Nat} (κ κ0 : K) (hinj : ∀ i j, i < R.length → j < R.length → rn R i = rn R j → i = j) : Same R κ0 (back R κ κ0) := by
  have key : ∀ i, i < R.length → ∃ h : (∃ j, j < R.length ∧ rn R j = rn R i), h.choose = i := fun i hi => by
    have h : ∃ j, j < R.length ∧ rn R j = rn R i := ⟨i, hi, rfl⟩
    exact ⟨h, hinj _ _ h.choose_spec.1 hi h.choose_spec.2⟩
  refine ⟨fun _ _ => Iff.rfl, fun i hi => ?_, fun i ep l hi => ?_⟩
  · obtain ⟨h, hc⟩ := key i hi
    simp only [back]; rw [dif_pos h, hc]
  · obtain ⟨h, hc⟩ := key i hi
    simp only [back]; rw [dif_pos h, hc]
theorem back_other {R : List Nat} (κ κ0 : K) {id : Nat} (h : ∀ i, i < R.length → rn R i ≠ id) : (back R κ κ0).at_ id = κ.at_ id ∧ ∀ ep l, (back R κ κ0).sl id ep l = κ.sl id ep l := by
  have : ¬ ∃ i, i < R.length ∧ rn R i = id := fun ⟨i, h1, h2⟩ => h i h1 h2
  exact ⟨by simp only [back]; rw [dif_neg this], fun ep l => by simp only [back]; rw [dif_neg this]⟩
def inS (σ0 : St) (r : List Nat) : Bool := σ0.all fun o => o.under (inR r)
/-- the caller's objects that the callee sees -/
def fits (σ : St) : List Nat → St → List Nat → Prop
  | [], [], _ => True
  | id :: ids, o :: os, r => σ[id]? = some (rnO r o) ∧ fits σ ids os r
  | _, _, _ => False
theorem fits_get {σ : St} {R : List Nat} : ∀ {r : List Nat} {σ0 : St}, fits σ r σ0 R → σ0.length = r.length ∧ ∀ i o, σ0[i]? = some o → σ[rn r i]? = some (rnO R o)
  | [], [], _ => ⟨rfl, fun i o h => by simp at h⟩
  | x :: r, [], h => h.elim
  | [], o :: os, h => h.elim
  | x :: r, o :: os, h => by
    obtain ⟨h1, h2⟩ := h
    obtain ⟨h3, h4⟩ := fits_get h2
    refine ⟨by simp [h3], fun i u hi => ?_⟩
    cases i with
    | zero => simp at hi; subst hi; exact h1
    | succ i => exact h4 i u (by simpa using hi)
theorem alive_lt {σ : St} {id : Nat} (h : alive σ id = true) : id < σ.length := by
  obtain ⟨o, h1, _⟩ := alive_iff.1 h
  exact (List.getElem?_eq_some_iff.1 h1).1
theorem call_in [HasGlob] {κ : K} {w : World} {σ σ0 : St} {r : List Nat} (hR : RS κ w σ) (hnd : r.Nodup) (hf : fits σ r σ0 r) (hin : inS σ0 r = true)
    (hal : σ0.all (fun o => o.under (alive σ0)) = true) : RS (via r κ) w σ0 := by
  obtain ⟨hlen, hget⟩ := fits_get hf
  have hs := via_same r κ
  have hlt : ∀ i o, σ0[i]? = some o → i < r.length := fun i o h => by rw [← hlen]; exact (List.getElem?_eq_some_iff.1 h).1
  refine ⟨fun i o ho => hs.inO (hlt i o ho) (hR.obj _ _ (hget i o ho)) (List.all_eq_true.1 hin o (List.mem_of_getElem? ho)), fun i j o o' b h1 h2 hb hb' => ?_, fun i o ho => List.all_eq_true.1 hal o (List.mem_of_getElem? ho), hR.inside, hR.glob⟩
  have hij := hR.inj _ _ _ _ b (hget i o h1) (hget j o' h2) (by rw [hs.block (hlt i o h1)]; exact hb) (by rw [hs.block (hlt j o' h2)]; exact hb')
  exact (List.getElem?_inj (hlt i o h1) hnd).1 (by rw [rn_get (hlt i o h1), rn_get (hlt j o' h2), hij])
theorem blockOf_live {κ : K} {w : World} {id : Nat} {o : Ob} {b : Nat} (h : RO κ w id o) (hb : blockOf κ id o = some b) : b < w.heap.size := by
  cases o with
  | dead => simp [blockOf] at hb
  | var cs =>
    obtain ⟨b', c, T, h1, h2, _⟩ := h
    simp only [blockOf, h1, Option.some.injEq] at hb; subst hb
    exact (Array.getElem?_eq_some_iff.1 h2).1
  | map es =>
    obtain ⟨b', ents, clock, h1, h2, _⟩ := h
    simp only [blockOf, h1, Option.some.injEq] at hb; subst hb
    exact (Array.getElem?_eq_some_iff.1 h2).1
  | arr ep m sz rows =>
    obtain ⟨_, h3⟩ := h
    rcases h3 with ⟨h3, _⟩ | ⟨b', cap, c, T, g1, g2, _⟩
    · simp [blockOf, h3, nilSlice] at hb
    · simp only [blockOf, g1, Option.some.injEq] at hb; subst hb
      exact (Array.getElem?_eq_some_iff.1 g2).1
theorem RO.frame {κ κ' : K} {w w' : World} {σ : St} {id : Nat} {o : Ob} (hst : Stays κ w κ' w' (alive σ)) (hin : o.under (alive σ) = true) (hal : o = .dead ∨ alive σ id = true) (h : RO κ w id o)
    (hat : κ'.at_ id = κ.at_ id) (hsl : ∀ ep l, κ'.sl id ep l = κ.sl id ep l)
    (hheap : ∀ b, blockOf κ id o = some b → w'.heap[b]? = w.heap[b]?) (hS : ∀ b, blockOf κ id o = some b → ∀ o, κ'.S b o ↔ κ.S b o) : RO κ' w' id o := by
  cases o with
  | dead => trivial
  | var cs =>
    obtain ⟨b, c, T, h1, h2, h3, h4⟩ := h
    have hb : blockOf κ id (.var cs) = some b := h1
    exact ⟨b, c, T, by rw [hat]; exact h1, by rw [hheap b hb]; exact h2, h3.stays hst hin, fun o h => h4 o ((hS b hb o).1 h)⟩
  | map es =>
    obtain ⟨b, ents, clock, h1, h2, h3, h4, h5⟩ := h
    have hb : blockOf κ id (.map es) = some b := h1
    refine ⟨b, ents, clock, by rw [hat]; exact h1, by rw [hheap b hb]; exact h2, h3, fun o h => h4 o ((hS b hb o).1 h), fun j k x hj => ?_⟩
    obtain ⟨e, e1, e2, e3⟩ := h5 j k x hj
    simp only [Ob.under, List.all_eq_true] at hin
    exact ⟨e, e1, e2, e3.stays hst (hin _ (List.mem_of_getElem? hj))⟩
  | arr ep m sz rows =>
    obtain ⟨⟨h1, h2⟩, h3⟩ := h
    refine ⟨⟨h1, fun ep' l v hv => h2 ep' l v (by rw [← hsl]; exact hv)⟩, ?_⟩
    rcases h3 with ⟨h3, h4⟩ | ⟨b, cap, c, T, g1, g2, g3, g4, g5, g6, g7⟩
    · exact .inl ⟨by rw [hsl]; exact h3, h4⟩
    · have hb : blockOf κ id (.arr ep m sz rows) = some b := by simp [blockOf, g1]
      refine .inr ⟨b, cap, c, T, by rw [hsl]; exact g1, by rw [hheap b hb]; exact g2, g3, g4, fun i j row d a1 a2 => ?_, fun hm o h => g6 hm o ((hS b hb o).1 h), fun hm o => by rw [hS b hb]; exact g7 hm o⟩
      obtain ⟨v, b1, b2⟩ := g5 i j row d a1 a2
      exact ⟨v, b1, b2.mono hst.S hst.keep⟩
theorem call_out [HasGlob] {κ κ0' : K} {w w' : World} {σ σ0 σ0' : St} {r : List Nat} (hR : RS κ w σ) (hnd : r.Nodup) (hf : fits σ r σ0 r)
    (hev : Evo (via r κ) w σ0 κ0' w' σ0') (hR' : RS κ0' w' σ0') :
    Evo κ w σ (back (allIds σ r σ0') κ κ0') w' (merge σ r σ0') ∧ RS (back (allIds σ r σ0') κ κ0') w' (merge σ r σ0') ∧ Same (allIds σ r σ0') κ0' (back (allIds σ r σ0') κ κ0') ∧
      (∀ i, alive σ0' i = true → alive (merge σ r σ0') (rn (allIds σ r σ0') i) = true) ∧ (allIds σ r σ0').length = σ0'.length := by
  obtain ⟨hlen, hget⟩ := fits_get hf
  have hl : r.length ≤ σ0'.length := by rw [← hlen]; exact hev.len
  have hRl := allIds_length (σ := σ) hl
  have hlt : ∀ x ∈ r, x < σ.length := by
    intro x hx
    obtain ⟨i, hi⟩ := List.mem_iff_getElem?.1 hx
    have hi' : i < r.length := (List.getElem?_eq_some_iff.1 hi).1
    have h1 : i < σ0.length := by omega
    have := hget i σ0[i] (List.getElem?_eq_getElem h1)
    have hx' : rn r i = x := by rw [rn_get hi'] at hi; exact Option.some.inj hi
    rw [hx'] at this
    exact (List.getElem?_eq_some_iff.1 this).1
  have hs := back_same (R := allIds σ r σ0') κ κ0' (fun i j hi hj h => allIds_inj hnd hlt hl (by omega) (by omega) h)
  have hvia := via_same r κ
  -- who owns
  have ownIn : ∀ b, own (via r κ) σ0 b → own κ σ b := by
    rintro b ⟨i, o, h1, h2⟩
    have hi : i < r.length := by rw [← hlen]; exact (List.getElem?_eq_some_iff.1 h1).1
    exact ⟨rn r i, rnO r o, hget i o h1, by rw [hvia.block hi]; exact h2⟩
  have notR : ∀ id, id ∉ r → id < σ.length → ∀ i, i < (allIds σ r σ0').length → rn (allIds σ r σ0') i ≠ id := by
    intro id h1 h2 i hi he
    by_cases h : i < r.length
    · rw [allIds_old h] at he; exact h1 (he ▸ mem_rn h)
    · obtain ⟨j, rfl⟩ : ∃ j, i = r.length + j := ⟨i - r.length, by omega⟩
      rw [allIds_new hl (by omega)] at he; omega
  -- blocks of the caller's others
  have frameB : ∀ id o b, id ∉ r → σ[id]? = some o → blockOf κ id o = some b → b < w.heap.size ∧ ¬ own (via r κ) σ0 b := by
    intro id o b h1 h2 h3
    refine ⟨blockOf_live (hR.obj _ _ h2) h3, ?_⟩
    rintro ⟨i, o', h4, h5⟩
    have hi : i < r.length := by rw [← hlen]; exact (List.getElem?_eq_some_iff.1 h4).1
    have := hR.inj _ _ _ _ b (hget i o' h4) h2 (by rw [hvia.block hi]; exact h5) h3
    exact h1 (this ▸ mem_rn hi)
  have hst : Stays κ w (back (allIds σ r σ0') κ κ0') w' (alive σ) := by
    refine ⟨fun b o h => hev.S b o h, fun b o h => hev.keep b o h, fun id hid => ?_, fun id ep len v hid hv => ?_⟩
    · by_cases h1 : id ∈ r
      · obtain ⟨i, hi⟩ := List.mem_iff_getElem?.1 h1
        have hi' : i < r.length := (List.getElem?_eq_some_iff.1 hi).1
        have hx : rn r i = id := by rw [rn_get hi'] at hi; exact Option.some.inj hi
        have ha : alive σ0 i = true := by
          have h2 : i < σ0.length := by omega
          obtain ⟨o, h3, h4⟩ := alive_iff.1 hid
          have h5 := hget i σ0[i] (List.getElem?_eq_getElem h2)
          rw [hx, h3] at h5
          refine alive_iff.2 ⟨σ0[i], List.getElem?_eq_getElem h2, fun hd => h4 ?_⟩
          rw [hd] at h5; exact (Option.some.inj h5)
        have := hs.at_ i (by omega)
        rw [allIds_old hi', hx] at this
        rw [← this, hev.at_ i ha, hvia.at_ i hi', hx]
      · exact (back_other κ κ0' (notR id h1 (alive_lt hid))).1
    · by_cases h1 : id ∈ r
      · obtain ⟨i, hi⟩ := List.mem_iff_getElem?.1 h1
        have hi' : i < r.length := (List.getElem?_eq_some_iff.1 hi).1
        have hx : rn r i = id := by rw [rn_get hi'] at hi; exact Option.some.inj hi
        have ha : alive σ0 i = true := by
          have h2 : i < σ0.length := by omega
          obtain ⟨o, h3, h4⟩ := alive_iff.1 hid
          have h5 := hget i σ0[i] (List.getElem?_eq_getElem h2)
          rw [hx, h3] at h5
          refine alive_iff.2 ⟨σ0[i], List.getElem?_eq_getElem h2, fun hd => h4 ?_⟩
          rw [hd] at h5; exact (Option.some.inj h5)
        have := hs.sl i ep len (by omega)
        rw [allIds_old hi', hx] at this
        rw [← this]
        exact hev.sl i ep len v ha (by rw [hvia.sl i ep len hi', hx]; exact hv)
      · rw [(back_other κ κ0' (notR id h1 (alive_lt hid))).2]; exact hv
  have hlive0 : ∀ i, alive σ0' i = true → alive (merge σ r σ0') (rn (allIds σ r σ0') i) = true := by
    intro i hi
    obtain ⟨o, h1, h2⟩ := alive_iff.1 hi
    have h3 := merge_at hnd hlt hl (i := i) (List.getElem?_eq_some_iff.1 h1).1
    rw [h1] at h3
    exact alive_iff.2 ⟨_, h3, by cases o <;> simp_all [rnO]⟩
  have hlive : ∀ id, alive σ id = true → alive (merge σ r σ0') id = true := by
    intro id hid
    by_cases h1 : id ∈ r
    · obtain ⟨i, hi⟩ := List.mem_iff_getElem?.1 h1
      have hi' : i < r.length := (List.getElem?_eq_some_iff.1 hi).1
      have hx : rn r i = id := by rw [rn_get hi'] at hi; exact Option.some.inj hi
      have ha : alive σ0 i = true := by
        have h2 : i < σ0.length := by omega
        obtain ⟨o, h3, h4⟩ := alive_iff.1 hid
        have h5 := hget i σ0[i] (List.getElem?_eq_getElem h2)
        rw [hx, h3] at h5
        refine alive_iff.2 ⟨σ0[i], List.getElem?_eq_getElem h2, fun hd => h4 ?_⟩
        rw [hd] at h5; exact (Option.some.inj h5)
      have := hlive0 i (hev.live i ha)
      rw [allIds_old hi', hx] at this; exact this
    · obtain ⟨o, h3, h4⟩ := alive_iff.1 hid
      exact alive_iff.2 ⟨o, (merge_other h1 (alive_lt hid)).trans h3, h4⟩
  have hSfr : ∀ id o b, id ∉ r → σ[id]? = some o → blockOf κ id o = some b → ∀ x, (back (allIds σ r σ0') κ κ0').S b x ↔ κ.S b x := by
    intro id o b h1 h2 h3 x
    obtain ⟨h4, h5⟩ := frameB id o b h1 h2 h3
    refine ⟨fun h => ?_, fun h => hev.S b x h⟩
    rcases hev.fresh b x h with h6 | h6 | h6
    · exact h6
    · exact absurd h6 h5
    · omega
  have hunderR : ∀ (i : Nat) (o0 : Ob), σ0'[i]? = some o0 → o0.under (inR (allIds σ r σ0')) = true := fun i o0 h =>
    Ob.under_mono (fun j hj => inR_lt.2 (by rw [hRl]; exact alive_lt hj)) (hR'.inner i o0 h)
  have hown' : ∀ b, own (back (allIds σ r σ0') κ κ0') (merge σ r σ0') b → own κ0' σ0' b ∨ (∃ id o, id ∉ r ∧ σ[id]? = some o ∧ blockOf κ id o = some b) := by
    rintro b ⟨id, o, h1, h2⟩
    rcases merge_cases hnd hlt hl h1 with ⟨i, o0, g1, rfl, g3, rfl⟩ | ⟨g1, g2, g3⟩
    · exact .inl ⟨i, o0, g3, by rw [hs.block (by omega)] at h2; exact h2⟩
    · refine .inr ⟨id, o, g1, g3, ?_⟩
      obtain ⟨e1, e2⟩ := back_other κ κ0' (notR id g1 g2)
      rw [← h2]; cases o <;> simp [blockOf, e1, e2]
  refine ⟨⟨hst.S, hst.keep, hst.at_, hst.sl, hlive, fun b o h => ?_, fun b hb hno => hev.frame b hb fun h => hno (ownIn b h), fun b hb => ?_, hev.size, hev.os, hev.tape, hev.output, by rw [merge_length hl]; omega⟩, ⟨fun id o ho => ?_, fun id id' o o' b h1 h2 hb hb' => ?_, fun id o ho => ?_, fun b o h => hR'.inside b o h, hR.glob.mono hst.S hst.keep⟩, hs, hlive0, hRl⟩
  · rcases hev.fresh b o h with h1 | h1 | h1
    · exact .inl h1
    · exact .inr (.inl (ownIn b h1))
    · exact .inr (.inr h1)
  · rcases hown' b hb with h1 | ⟨id, o, h1, h2, h3⟩
    · rcases hev.owned b h1 with h2 | h2
      · exact .inl (ownIn b h2)
      · exact .inr h2
    · exact .inl ⟨id, o, h2, h3⟩
  · rcases merge_cases hnd hlt hl ho with ⟨i, o0, g1, rfl, g3, rfl⟩ | ⟨g1, g2, g3⟩
    · exact hs.outO (by omega) (hR'.obj i o0 g3) (hunderR i o0 g3)
    · obtain ⟨e1, e2⟩ := back_other κ κ0' (notR id g1 g2)
      refine RO.frame hst (hR.inner id o g3) ?_ (hR.obj id o g3) e1 e2 (fun b hb => hev.frame b (frameB id o b g1 g3 hb).1 (frameB id o b g1 g3 hb).2) (hSfr id o · g1 g3)
      cases o with
      | dead => exact .inl rfl
      | _ => exact .inr (alive_iff.2 ⟨_, g3, by simp⟩)
  · rcases merge_cases hnd hlt hl h1 with ⟨i, o0, g1, rfl, g3, rfl⟩ | ⟨g1, g2, g3⟩
    · rw [hs.block (by omega)] at hb
      rcases merge_cases hnd hlt hl h2 with ⟨j, o1, k1, rfl, k3, rfl⟩ | ⟨k1, k2, k3⟩
      · rw [hs.block (by omega)] at hb'
        rw [hR'.inj i j o0 o1 b g3 k3 hb hb']
      · exfalso
        obtain ⟨e1, e2⟩ := back_other κ κ0' (notR id' k1 k2)
        have hb2 : blockOf κ id' o' = some b := by rw [← hb']; cases o' <;> simp [blockOf, e1, e2]
        obtain ⟨q1, q2⟩ := frameB id' o' b k1 k3 hb2
        rcases hev.owned b ⟨i, o0, g3, hb⟩ with h3 | h3
        · exact q2 h3
        · omega
    · obtain ⟨e1, e2⟩ := back_other κ κ0' (notR id g1 g2)
      have hb1 : blockOf κ id o = some b := by rw [← hb]; cases o <;> simp [blockOf, e1, e2]
      rcases merge_cases hnd hlt hl h2 with ⟨j, o1, k1, rfl, k3, rfl⟩ | ⟨k1, k2, k3⟩
      · exfalso
        rw [hs.block (by omega)] at hb'
        obtain ⟨q1, q2⟩ := frameB id o b g1 g3 hb1
        rcases hev.owned b ⟨j, o1, k3, hb'⟩ with h3 | h3
        · exact q2 h3
        · omega
      · obtain ⟨e1', e2'⟩ := back_other κ κ0' (notR id' k1 k2)
        have hb2 : blockOf κ id' o' = some b := by rw [← hb']; cases o' <;> simp [blockOf, e1', e2']
        exact hR.inj _ _ _ _ b g3 k3 hb1 hb2
  · rcases merge_cases hnd hlt hl ho with ⟨i, o0, g1, rfl, g3, rfl⟩ | ⟨g1, g2, g3⟩
    · exact rnO_under hlive0 (hR'.inner i o0 g3)
    · exact Ob.under_mono hlive (hR.inner id o g3)
end Go.Am
/- The abstract machine: calls that hand references on: as steps of a walk. -/
namespace Go.Am
/-- an argument as it is handed on: an array that the callee does not see goes as data -/
def handC (r : List Nat) (look : Look) : Cell → Option Cell
  | .arr id ep len => bif r.elem id then some (.arr id ep len) else snap look (.arr id ep len)
  | c => snap look c
def handCs (r : List Nat) (look : Look) : List Cell → Option (List Cell)
  | [] => some []
  | c :: cs => match handC r look c, handCs r look cs with
    | some x, some xs => some (x :: xs)
    | _, _ => none
def handV (r : List Nat) (look : Look) : V → Option V
  | .one c => (handC r look c).map .one
  | .agg cs => (handCs r look cs).map .agg
  | _ => none
def handVs (r : List Nat) (look : Look) : List V → Option (List V)
  | [] => some []
  | v :: vs => match handV r look v, handVs r look vs with
    | some x, some xs => some (x :: xs)
    | _, _ => none
section
variable {κ : K} {w : World} {σ : St} {look : Look} {r : List Nat}
theorem handC_sound [HasGlob] (hR : RS κ w σ) (hl : Sees σ look) {L : Nat → Bool} {c c' : Cell} {v : Value} (h : handC r look c = some c') (hc : RC κ w c v) (hu : c.under L = true) : RC κ w c' v ∧ c'.under L = true := by
  unfold handC at h
  split at h
  · rename_i id ep len
    cases hb : r.elem id with
    | true => rw [hb] at h; simp only [cond_true, Option.some.injEq] at h; subst h; exact ⟨hc, hu⟩
    | false => rw [hb] at h; simp only [cond_false] at h; exact ⟨snap_sound hR hl h hc, snap_under h hu⟩
  · exact ⟨snap_sound hR hl h hc, snap_under h hu⟩
theorem handCs_sound [HasGlob] (hR : RS κ w σ) (hl : Sees σ look) {L : Nat → Bool} : ∀ {cs cs' : List Cell} {vs : List Value}, handCs r look cs = some cs' → RCs κ w cs vs → underAll L cs = true → RCs κ w cs' vs ∧ underAll L cs' = true
  | [], cs', vs, h, hc, _ => by simp only [handCs, Option.some.injEq] at h; subst h; exact ⟨hc, rfl⟩
  | c :: cs, cs', [], h, hc, _ => by have := hc.1; simp at this
  | c :: cs, cs', v :: vs, h, hc, hu => by
    simp only [handCs] at h
    cases h1 : handC r look c with
    | none => simp [h1] at h
    | some x =>
    cases h2 : handCs r look cs with
    | none => simp [h1, h2] at h
    | some xs =>
    simp only [h1, h2, Option.some.injEq] at h; subst h
    simp only [underAll, Bool.and_eq_true] at hu ⊢
    obtain ⟨a1, a2⟩ := handC_sound hR hl h1 hc.head hu.1
    obtain ⟨b1, b2⟩ := handCs_sound hR hl h2 hc.tail hu.2
    exact ⟨.cons a1 b1, a2, b2⟩
theorem handV_sound [HasGlob] (hR : RS κ w σ) (hl : Sees σ look) {L : Nat → Bool} {x x' : V} {v : Value} (h : handV r look x = some x') (hx : RV κ w x v) (hu : x.under L = true) : RV κ w x' v ∧ x'.under L = true := by
  cases hx with
  | one c v hc =>
    simp only [handV, Option.map_eq_some_iff] at h
    obtain ⟨c', h1, rfl⟩ := h
    obtain ⟨a1, a2⟩ := handC_sound hR hl h1 hc hu
    exact ⟨.one _ _ a1, a2⟩
  | agg cs vs hc =>
    simp only [handV, Option.map_eq_some_iff] at h
    obtain ⟨c', h1, rfl⟩ := h
    obtain ⟨a1, a2⟩ := handCs_sound hR hl h1 hc hu
    exact ⟨.agg _ _ a1, a2⟩
  | tup xs vs hn hall => simp [handV] at h
  | undef => simp [handV] at h
theorem handVs_sound [HasGlob] {L} (hR : RS κ w σ) (hl : Sees σ look) : ∀ {vs vs' : List V} {xs : List Value}, handVs r look vs = some vs' → RVs κ w L vs xs → RVs κ w L vs' xs
  | [], vs', xs, h, hv => by simp only [handVs, Option.some.injEq] at h; subst h; exact hv
  | v :: vs, vs', [], h, hv => by have := hv.1; simp at this
  | v :: vs, vs', x :: xs, h, hv => by
    simp only [handVs] at h
    cases h1 : handV r look v with
    | none => simp [h1] at h
    | some y =>
    cases h2 : handVs r look vs with
    | none => simp [h1, h2] at h
    | some ys =>
    simp only [h1, h2, Option.some.injEq] at h; subst h
    obtain ⟨h3, h4⟩ := hv.2 0 v x rfl rfl
    obtain ⟨h5, h6⟩ := handV_sound hR hl h1 h3 h4
    exact .cons h5 h6 (handVs_sound hR hl h2 ⟨by have := hv.1; simpa using this, fun i u y h5 h6 => hv.2 (i + 1) u y (by simpa using h5) (by simpa using h6)⟩)
/-- .. a nil slice goes as it is -/
def handN (r : List Nat) (look : Look) : V → Option V
  | .one (.d (.sc (.slice none 0 0))) => some (.one (.d (.sc (.slice none 0 0))))
  | v => handV r look v
def handNs (r : List Nat) (look : Look) : List V → Option (List V)
  | [] => some []
  | v :: vs => match handN r look v, handNs r look vs with
    | some x, some xs => some (x :: xs)
    | _, _ => none
theorem handN_sound [HasGlob] (hR : RS κ w σ) (hl : Sees σ look) {L : Nat → Bool} {x x' : V} {v : Value} (h : handN r look x = some x') (hx : RV κ w x v) (hu : x.under L = true) : RV κ w x' v ∧ x'.under L = true := by
  unfold handN at h
  split at h
  · injection h with h; subst h; exact ⟨hx, hu⟩
  · exact handV_sound hR hl h hx hu
theorem handNs_sound [HasGlob] {L} (hR : RS κ w σ) (hl : Sees σ look) : ∀ {vs vs' : List V} {xs : List Value}, handNs r look vs = some vs' → RVs κ w L vs xs → RVs κ w L vs' xs
  | [], vs', xs, h, hv => by simp only [handNs, Option.some.injEq] at h; subst h; exact hv
  | v :: vs, vs', [], h, hv => by have := hv.1; simp at this
  | v :: vs, vs', x :: xs, h, hv => by
    simp only [handNs] at h
    cases h1 : handN r look v with
    | none => simp [h1] at h
    | some y =>
    cases h2 : handNs r look vs with
    | none => simp [h1, h2] at h
    | some ys =>
    simp only [h1, h2, Option.some.injEq] at h; subst h
    obtain ⟨h3, h4⟩ := hv.2 0 v x rfl rfl
    obtain ⟨h5, h6⟩ := handN_sound hR hl h1 h3 h4
    exact .cons h5 h6 (handNs_sound hR hl h2 ⟨by have := hv.1; simpa using this, fun i u y h5 h6 => hv.2 (i + 1) u y (by simpa using h5) (by simpa using h6)⟩)
/-- either way -/
def Hands (r : List Nat) (look : Look) (vs vs' : List V) : Prop := handVs r look vs = some vs' ∨ handNs r look vs = some vs'
theorem Hands.sound [HasGlob] {L} (hR : RS κ w σ) (hl : Sees σ look) {vs vs' : List V} {xs : List Value} (h : Hands r look vs vs') (hv : RVs κ w L vs xs) : RVs κ w L vs' xs :=
  h.elim (fun h => handVs_sound hR hl h hv) fun h => handNs_sound hR hl h hv
/-- what the callee sees is closed -/
def closed (σ0 : St) (vs0 : List V) (r : List Nat) : Bool := (inS σ0 r && σ0.all fun o => o.under (alive σ0)) && (vs0.all fun v => v.under (alive σ0) && v.under (inR r))
def nodup : List Nat → Bool
  | [] => true
  | x :: r => !r.elem x && nodup r
theorem nodup_spec : ∀ {r : List Nat}, nodup r = true → r.Nodup
  | [], _ => List.nodup_nil
  | x :: r, h => by
    simp only [nodup, Bool.and_eq_true, Bool.not_eq_true'] at h
    rw [List.nodup_cons]
    exact ⟨fun hm => by have : r.elem x = true := by simpa using hm
                        rw [this] at h; simp at h, nodup_spec h.2⟩
theorem calls_ref [HasGlob] {P : Program} {f : FuncId} {vs0 : List V} {σ0 : St} {R : V → St → Prop} (hS : Spec P f vs0 σ0 R) (hR : RS κ w σ) {xs : List Value} (hx : RVs κ w (alive σ) (rnVs r vs0) xs)
    (hnd : nodup r = true) (hf : fits σ r σ0 r) (hcl : closed σ0 vs0 r = true) :
    Calls P f xs.toArray w fun en w' => ∃ x ret σ0' κ', en = .returned x ∧ R ret σ0' ∧ r.length ≤ σ0'.length ∧ RV κ' w' (rnV (allIds σ r σ0') ret) x ∧ (rnV (allIds σ r σ0') ret).under (alive (merge σ r σ0')) = true ∧ Evo κ w σ κ' w' (merge σ r σ0') ∧ RS κ' w' (merge σ r σ0') := by
  simp only [closed, Bool.and_eq_true, List.all_eq_true] at hcl
  obtain ⟨⟨h1, h2⟩, h3⟩ := hcl
  have hnd' := nodup_spec hnd
  have hin := call_in hR hnd' hf h1 (by simpa using h2)
  have hargs : RVs (via r κ) w (alive σ0) vs0 xs := by
    refine ⟨by rw [← rnVs_length r]; exact hx.1, fun i v x hv hxx => ?_⟩
    have := hx.2 i (rnV r v) x (by rw [rnVs_get, hv]; rfl) hxx
    obtain ⟨h4, h5⟩ := h3 v (List.mem_of_getElem? hv)
    exact ⟨(via_same r κ).inV this.1 h5, h4⟩
  refine (hS.2 (via r κ) w xs hin hargs).mono fun en w' ⟨x, ret, κ0', σ0', g1, g2, g3, g4, g5, g6⟩ => ?_
  obtain ⟨k1, k2, k3, k4, k5⟩ := call_out hR hnd' hf g5 g6
  refine ⟨x, ret, σ0', _, g1, g2, ?_, k3.outV g3 (V.under_mono (fun i hi => inR_lt.2 (by rw [k5]; exact alive_lt hi)) g4), rnV_under k4 g4, k1, k2⟩
  have := (fits_get hf).1
  have := g5.len; omega
end
section
variable {C : Cx} {ops : Array Oper} {l : List Nat} {e : Env} {σ : St} {Q : Env → St → Prop} {i : Nat} {o : Oper}
/-- a call of a function that gets references, too -/
theorem WO.callr [HasGlob] (r : List Nat) (σ0 : St) (vs0 : List V) (ho : ops[i]? = some o) (hg : guardOk e ops.toList o = some true) (hd : dstOk C.n o = true) {f : FuncId} {vs : List V} (hc : calleeOf e o = some (f, vs))
    (hh : handVs r (fun id => σ[id]?) vs = some (rnVs r vs0)) (hnd : nodup r = true) (hf : fits σ r σ0 r) (hcl : closed σ0 vs0 r = true) {R : V → St → Prop} (hS : Spec C.P f vs0 σ0 R)
    (h : ∀ ret σ0', R ret σ0' → r.length ≤ σ0'.length → WO C ops l (Env.put e o.dst (rnV (allIds σ r σ0') ret)) (merge σ r σ0') Q) : WO C ops (i :: l) e σ Q := by
  intro κ w a hs
  simp only [wpOps, ho, guard_sound hs hg, if_true]
  left
  obtain ⟨xs, hrun, hxs⟩ := callee_sound hs hc hS.1
  unfold Oper.wp
  rw [hrun]
  simp only [Oper.upon]
  refine (calls_ref hS hs.rs (handVs_sound hs.rs (fun _ _ h => h) hh hxs) hnd hf hcl).mono fun en w' hen => ?_
  obtain ⟨x, ret, σ0', κ', rfl, g1, g2, g3, g4, g5, g6⟩ := hen
  exact WO.later g5 (h ret σ0' g1 g2) (hs.put g5.stays g5.live g6 g3 g4 (dstOk_spec hd))
end
section
variable {C : Cx} {all l : List Oper} {k : Nat} {e : Env} {σ : St} {o : Oper} {Q : Env → St → Prop}
/-- a call that hands references on; what it gives is known but for R -/
theorem WL.cr [HasGlob] (r : List Nat) (σ0 : St) (vs0 : List V) {f : FuncId} {vs : List V} {R : V → St → Prop} (hS : Spec C.P f vs0 σ0 R) (hg : guardOk e all o = some true) (hd : dstOk C.n o = true) (hc : calleeOf e o = some (f, vs))
    (hh : handVs r (fun id => σ[id]?) vs = some (rnVs r vs0)) (hnd : nodup r = true) (hf : fits σ r σ0 r) (hcl : closed σ0 vs0 r = true)
    (h : ∀ ret σ0', R ret σ0' → WL C all l (k + 1) (Env.put e o.dst (rnV (allIds σ r σ0') ret)) (merge σ r σ0') Q) : WL C all (o :: l) k e σ Q :=
  fun hall => WO.callr r σ0 vs0 (head_of hall) (by simpa using hg) hd hc hh hnd hf hcl hS fun ret σ0' h1 _ => WL.tail hall (h ret σ0' h1)
/-- .. what it gives is known -/
theorem WL.cr' [HasGlob] (r : List Nat) (σ0 : St) (vs0 : List V) {f : FuncId} {vs : List V} {ret : V} {σ1 : St} (hS : Spec C.P f vs0 σ0 (fun x s => x = ret ∧ s = σ1)) (hg : guardOk e all o = some true) (hd : dstOk C.n o = true) (hc : calleeOf e o = some (f, vs))
    (hh : handVs r (fun id => σ[id]?) vs = some (rnVs r vs0)) (hnd : nodup r = true) (hf : fits σ r σ0 r) (hcl : closed σ0 vs0 r = true)
    {v' : V} {σ' : St} {e' : Env} (hv : fV (rnV (allIds σ r σ1) ret) = some v') (hσ : fS (merge σ r σ1) = some σ') (he : nput e o.dst v' = some e') (h : WL C all l (k + 1) e' σ' Q) : WL C all (o :: l) k e σ Q := by
  rw [fV_eq] at hv; injection hv with hv; subst hv
  rw [fS_eq] at hσ; injection hσ with hσ; subst hσ
  rw [nput_eq] at he; injection he with he; subst he
  refine WL.cr r σ0 vs0 hS hg hd hc hh hnd hf hcl ?_
  rintro _ _ ⟨rfl, rfl⟩; exact h
def zipU : List Nat → St → Upd
  | i :: r, o :: s => (i, o) :: zipU r s
  | _, _ => []
theorem setAll_upd (R : List Nat) : ∀ (σ : St) (r : List Nat) (s : St), r.length = s.length → setAll R σ r s = σ.upd (zipU r (rnS R s))
  | σ, [], [], _ => by simp [setAll, zipU, rnS, St.upd]
  | σ, [], _ :: _, h => by simp at h
  | σ, _ :: _, [], h => by simp at h
  | σ, x :: r, o :: s, h => by rw [setAll, setAll_upd R _ r s (by simpa using h)]; rfl
theorem zipU_ids : ∀ (r : List Nat) (s : St), r.length = s.length → (zipU r s).map (·.1) = r
  | [], [], _ => rfl
  | [], _ :: _, h => by simp at h
  | _ :: _, [], h => by simp at h
  | x :: r, o :: s, h => by simp [zipU, zipU_ids r s (by simpa using h)]
theorem fits_congr {σ σ2 : St} {R : List Nat} : ∀ {r : List Nat} {σ0 : St}, (∀ id ∈ r, σ2[id]? = σ[id]?) → Am.fits σ r σ0 R → Am.fits σ2 r σ0 R
  | [], [], _, _ => trivial
  | _ :: _, [], _, h => h.elim
  | [], _ :: _, _, h => h.elim
  | x :: r, o :: s, hc, h => ⟨by rw [hc x (by simp)]; exact h.1, fits_congr (fun id hid => hc id (by simp [hid])) h.2⟩
theorem Valid.callr [HasGlob] (r : List Nat) (σ0 : St) (vs0 : List V) (ho : all.toArray[k]? = some o) (hg : guardOk e all o = some true) (hd : dstOk C.n o = true) {f : FuncId} {vs : List V} (hc : calleeOf (opEnv e o) o = some (f, vs))
    (hh : Hands r (inFoot (r ++ foot (opEnv e o) o) σ) vs (rnVs r vs0)) (hnd : nodup r = true) (hf : fits σ r σ0 r) (hcl : closed σ0 vs0 r = true) {ret : V} {σ1 : St} (hS : Spec C.P f vs0 σ0 (fun x s => x = ret ∧ s = σ1)) (hlen1 : σ1.length = r.length) :
    Valid C all.toArray k ⟨o.dst, rnV r ret, zipU r (rnS r σ1), reads all o, r ++ foot (opEnv e o) o, [], []⟩ e σ := by
  intro e2 σ2 hTm hF hlen hGr Q K2 κ w a hs hK
  have hg2 : guardOk e2 all o = some true := by rw [guardOk_congr fun t ht => hTm t (by simp [reads, ht])]; exact hg
  have he : opEnv e2 o = opEnv e o := slots_congr fun t ht => hTm t (by simp [reads, ht])
  have hc2 : calleeOf e2 o = some (f, vs) := calleeOf_sub (slots_sub e2 _) (by rw [show slots (temps o.op.operands.toList) e2 = opEnv e2 o from rfl, he]; exact hc)
  rw [← inFoot_congr (σ2 := σ2) fun id hid => hF id (.inl hid)] at hh
  have hf2 : fits σ2 r σ0 r := fits_congr (fun id hid => hF id (.inl (by simp [hid]))) hf
  unfold wpOp
  simp only [ho, guard_sound (ops := all.toArray) hs (by simpa using hg2), if_true]
  left
  obtain ⟨xs, hrun, hxs⟩ := callee_sound hs hc2 hS.1
  unfold Oper.wp
  rw [hrun]
  simp only [Oper.upon]
  refine (calls_ref hS hs.rs (hh.sound hs.rs (inFoot_sees _ _) hxs) hnd hf2 hcl).mono fun en w' hen => ?_
  obtain ⟨x, ret', σ0', κ', rfl, ⟨rfl, rfl⟩, g2, g3, g4, g5, g6⟩ := hen
  have hall : allIds σ2 r σ0' = r := by rw [allIds, List.drop_eq_nil_of_le (by omega)]; simp [newIds]
  have hm : merge σ2 r σ0' = σ2.upd (zipU r (rnS r σ0')) := by rw [merge, hall]; exact setAll_upd r σ2 r σ0' hlen1.symm
  rw [hall] at g3 g4
  rw [hm] at g4 g5 g6
  exact hK κ' w' _ g5 (hs.put g5.stays g5.live g6 g3 g4 (dstOk_spec hd))
theorem set_same_ob {σ : St} {i : Nat} {o : Ob} (h : σ[i]? = some o) : σ.set i o = σ := by
  obtain ⟨hi, rfl⟩ := List.getElem?_eq_some_iff.1 h
  exact List.set_getElem_self hi
theorem upd_fits {σ : St} {R : List Nat} : ∀ {r : List Nat} {s : St}, Am.fits σ r s R → σ.upd (zipU r (rnS R s)) = σ
  | [], [], _ => rfl
  | _ :: _, [], h => h.elim
  | [], _ :: _, h => h.elim
  | i :: r, o :: s, h => by
    show St.upd (σ.set i (rnO R o)) (zipU r (rnS R s)) = σ
    rw [set_same_ob h.1]; exact upd_fits h.2
/-- .. that changes nothing -/
theorem Valid.callq [HasGlob] (r : List Nat) (σ0 : St) (vs0 : List V) (ho : all.toArray[k]? = some o) (hg : guardOk e all o = some true) (hd : dstOk C.n o = true) {f : FuncId} {vs : List V} (hc : calleeOf (opEnv e o) o = some (f, vs))
    (hh : Hands r (inFoot (r ++ foot (opEnv e o) o) σ) vs (rnVs r vs0)) (hnd : nodup r = true) (hf : fits σ r σ0 r) (hcl : closed σ0 vs0 r = true) {ret : V} (hS : Spec C.P f vs0 σ0 (fun x s => x = ret ∧ s = σ0)) (hlen1 : σ0.length = r.length) :
    Valid C all.toArray k ⟨o.dst, rnV r ret, [], reads all o, r ++ foot (opEnv e o) o, [], []⟩ e σ := by
  intro e2 σ2 hTm hF hlen hGr Q K2 κ w a hs hK
  have hg2 : guardOk e2 all o = some true := by rw [guardOk_congr fun t ht => hTm t (by simp [reads, ht])]; exact hg
  have he : opEnv e2 o = opEnv e o := slots_congr fun t ht => hTm t (by simp [reads, ht])
  have hc2 : calleeOf e2 o = some (f, vs) := calleeOf_sub (slots_sub e2 _) (by rw [show slots (temps o.op.operands.toList) e2 = opEnv e2 o from rfl, he]; exact hc)
  rw [← inFoot_congr (σ2 := σ2) fun id hid => hF id (.inl hid)] at hh
  have hf2 : fits σ2 r σ0 r := fits_congr (fun id hid => hF id (.inl (by simp [hid]))) hf
  unfold wpOp
  simp only [ho, guard_sound (ops := all.toArray) hs (by simpa using hg2), if_true]
  left
  obtain ⟨xs, hrun, hxs⟩ := callee_sound hs hc2 hS.1
  unfold Oper.wp
  rw [hrun]
  simp only [Oper.upon]
  refine (calls_ref hS hs.rs (hh.sound hs.rs (inFoot_sees _ _) hxs) hnd hf2 hcl).mono fun en w' hen => ?_
  obtain ⟨x, ret', σ0', κ', rfl, ⟨rfl, rfl⟩, g2, g3, g4, g5, g6⟩ := hen
  have hall : allIds σ2 r σ0' = r := by rw [allIds, List.drop_eq_nil_of_le (by omega)]; simp [newIds]
  have hm : merge σ2 r σ0' = σ2.upd (zipU r (rnS r σ0')) := by rw [merge, hall]; exact setAll_upd r σ2 r σ0' hlen1.symm
  rw [upd_fits hf2] at hm
  rw [hall] at g3 g4
  rw [hm] at g4 g5 g6
  exact hK κ' w' _ g5 (hs.put g5.stays g5.live g6 g3 g4 (dstOk_spec hd))
theorem DL.crH [HasGlob] {acc : List Rec} (r : List Nat) (σ0 : St) (vs0 : List V) {f : FuncId} {vs : List V} {ret : V} {σ1 : St} (hS : Spec C.P f vs0 σ0 (fun x s => x = ret ∧ s = σ1)) (hg : guardOk e all o = some true) (hd : dstOk C.n o = true) (hc : calleeOf (opEnv e o) o = some (f, vs))
    (hh : Hands r (inFoot (r ++ foot (opEnv e o) o) σ) vs (rnVs r vs0)) (hnd : nodup r = true) (hf : fits σ r σ0 r) (hcl : closed σ0 vs0 r = true) (hlen1 : σ1.length = r.length)
    {v' : V} {σ' : St} {e' : Env} (hv : fV (rnV r ret) = some v') (hσ : fS (σ.upd (zipU r (rnS r σ1))) = some σ') {T F : List Nat} (hT' : fL (reads all o) = some T) (hF' : fL (r ++ foot (opEnv e o) o) = some F)
    (he : nput e o.dst v' = some e') (h : DL C all l (k + 1) e' σ' (⟨o.dst, .undef, r.map fun i => (i, .dead), T, F, [], []⟩ :: acc) Q) : DL C all (o :: l) k e σ acc Q := by
  rw [fV_eq] at hv; injection hv with hv; subst hv
  rw [fS_eq] at hσ; injection hσ with hσ; subst hσ
  rw [nput_eq] at he; injection he with he; subst he
  rw [fL_eq] at hT' hF'; injection hT' with hT'; injection hF' with hF'; subst hT'; subst hF'
  intro hall
  refine (DL.cons (r := ⟨o.dst, rnV r ret, zipU r (rnS r σ1), reads all o, r ++ foot (opEnv e o) o, [], []⟩) ?_ (Valid.callr r σ0 vs0 (head_of hall) hg hd hc hh hnd hf hcl hS hlen1) h) hall
  have := zipU_ids r (rnS r σ1) (by rw [rnS_length]; omega)
  simp only [Rec.key, Rec.mk.injEq, true_and, and_true]
  generalize zipU r (rnS r σ1) = u at this
  subst this
  simp [Function.comp_def]
theorem DL.cr' [HasGlob] {acc : List Rec} (r : List Nat) (σ0 : St) (vs0 : List V) {f : FuncId} {vs : List V} {ret : V} {σ1 : St} (hS : Spec C.P f vs0 σ0 (fun x s => x = ret ∧ s = σ1)) (hg : guardOk e all o = some true) (hd : dstOk C.n o = true) (hc : calleeOf (opEnv e o) o = some (f, vs))
    (hh : handVs r (inFoot (r ++ foot (opEnv e o) o) σ) vs = some (rnVs r vs0)) (hnd : nodup r = true) (hf : fits σ r σ0 r) (hcl : closed σ0 vs0 r = true) (hlen1 : σ1.length = r.length)
    {v' : V} {σ' : St} {e' : Env} (hv : fV (rnV r ret) = some v') (hσ : fS (σ.upd (zipU r (rnS r σ1))) = some σ') {T F : List Nat} (hT' : fL (reads all o) = some T) (hF' : fL (r ++ foot (opEnv e o) o) = some F)
    (he : nput e o.dst v' = some e') (h : DL C all l (k + 1) e' σ' (⟨o.dst, .undef, r.map fun i => (i, .dead), T, F, [], []⟩ :: acc) Q) : DL C all (o :: l) k e σ acc Q :=
  DL.crH r σ0 vs0 hS hg hd hc (.inl hh) hnd hf hcl hlen1 hv hσ hT' hF' he h
end
end Go.Am
/- The abstract machine: walking, in short: the rules with their small premises worked out by themselves; loops, round by round. -/
namespace Go.Am
/-! reading a list that is written as data of a kind -/
theorem aop_make [HasGlob] {C : Cx} {e : Env} {σ : St} {o : Oper} {nid : Nat} {t et : TypeId} {l c : Operand} {n w : Nat} {z : Value} {m : Bool} {k k' : IntKind} {len : Int} (ho : o.op = .makeSlice t l c) (hl : ev (opEnv e o) l = some (.one (.d (.sc (.int k len)))))
    (hc : ev (opEnv e o) c = some (.one (.d (.sc (.int k' len))))) (ht : C.T.elem t = some et) (hs : C.T.size et = some n) (hb : C.T.bytes et = some w) (hz : C.T.zero et = some z) (h0 : 0 ≤ len) (h1 : len * w ≤ most) (h2 : len < 2 ^ 62)
    (hzc : (Nat.beq z.cells.size n && allPlain z.cells.toList) = true) (hm : arMode C.ar o.dst = some m) :
    aop C nid e σ o = some (.one (.arr nid 0 len.toNat), [(nid, .arr 0 m n (List.replicate len.toNat (z.cells.toList.map .sc)))]) := by
  unfold aop core
  rw [ho]
  simp only [hl, hc, makeSliceOf, ht, hs, hb, hz, hzc, hm, decide_eq_true h0, decide_eq_true h1, decide_eq_true h2, arrOrList, List.length_replicate, decide_true, Bool.and_self, cond_true]
theorem bytesOf_map : ∀ bs : List UInt8, bytesOf (bs.map fun b => [.sc (.int .u8 (b.toNat : Int))]) = some bs
  | [] => rfl
  | b :: bs => by simp [bytesOf, bytesOf_map bs]
theorem scalOp_sadd {P : Program} {ρ : Operand → Option V} {dst : Option Nat} {t t' ty : TypeId} {x y : Operand} {a b : ByteArray} {pos : String} {after : Array Edge} {guard : Option (Nat × Bool)}
    (hx : ρ x = some (.one (.d (.sc (.string a))))) (hy : ρ y = some (.one (.d (.sc (.string b))))) (hs : a.size + b.size < 2 ^ 63) :
    scalOp P ρ ⟨dst, .binOp .add t x y t', ty, pos, after, guard⟩ = some (.one (.d (.sc (.string (a ++ b))))) := by
  have hle : ¬ (((a.size + b.size : Nat) : Int) > IntKind.i64.max) := by
    have : IntKind.i64.max = 9223372036854775807 := rfl
    rw [this]; omega
  have hb : binOp .add t (.string a) (.string b) = pure (.string (a ++ b)) := by
    simp only [binOp, Op.stringOp]
    rw [if_neg hle]
  have hrun : ∀ η : Operand → Value, η x = .string a → η y = .string b → pureRun P (execOp η ⟨dst, .binOp .add t x y t', ty, pos, after, guard⟩) = some (.value (.string (a ++ b))) := by
    intro η h1 h2
    simp only [execOp, h1, h2]
    rw [hb]; rfl
  unfold scalOp
  split
  · rw [hrun _ (by simp only [hx, V.scal]) (by simp only [hy, V.scal])]; rfl
  · rename_i h
    simp [isSelect, Op.operands, hx, hy, V.scal] at h
/-- two strings, one behind the other -/
theorem aop_sadd [HasGlob] {C : Cx} {e : Env} {σ : St} {o : Oper} {nid : Nat} {t t' : TypeId} {x y : Operand} {a b : ByteArray} (ho : o.op = .binOp .add t x y t') (hx : ev (opEnv e o) x = some (.one (.d (.sc (.string a))))) (hy : ev (opEnv e o) y = some (.one (.d (.sc (.string b)))))
    (hs : a.size + b.size < 2 ^ 63) : aop C nid e σ o = some (.one (.d (.sc (.string (a ++ b)))), []) := by
  obtain ⟨dst, op, ty, pos, after, guard⟩ := o
  simp only at ho
  subst ho
  unfold aop core
  simp only [hx, hy, scalOp_sadd hx hy hs, noU]
theorem ba_beq (a b : ByteArray) : (a == b) = decide (a = b) := by
  rw [beq_toListBytes, ByteArray.toList_eq, ByteArray.toList_eq]
  by_cases h : a = b
  · subst h; simp
  · rw [decide_eq_false h, Bool.eq_false_iff]
    intro hb
    apply h
    obtain ⟨⟨x⟩⟩ := a
    obtain ⟨⟨y⟩⟩ := b
    have : x = y := by simpa using hb
    subst this; rfl
theorem at_mid {α : Type} {f : α → List D} {l done rest : List α} {x : α} {j : Int} (hl : l = done ++ x :: rest) (hj : j = done.length) : (l.map f)[j.toNat]? = some (f x) := by subst hl hj; simp
theorem at_of {α : Type} {f : α → List D} {l : List α} {x : α} {i : Nat} (h : l[i]? = some x) : (l.map f)[i]? = some (f x) := by simp [h]
theorem rowsOk_map_of {α : Type} {f : α → List D} {n : Nat} {l : List α} (h : ∀ x, (f x).length = n) : rowsOk n (l.map f) = true := by
  simp only [rowsOk, List.all_eq_true, List.mem_map]
  rintro _ ⟨x, _, rfl⟩
  rw [h x]; exact Nat.beq_refl n
/-! handing on, without asking first: that the lengths fit is owed beside -/
def snU (look : Look) : Cell → Option Cell
  | .d (.sc (.slice none 0 0)) => some (.d (.list []))
  | .arr id _ _ => match look id with
    | some (.arr _ false _ rows) => some (.d (.list rows))
    | _ => none
  | c => some c
def okU (look : Look) : Cell → Prop
  | .arr id ep len => match look id with
    | some (.arr ep' _ _ rows) => ep = ep' ∧ len = rows.length
    | _ => False
  | _ => True
theorem snU_eq {look : Look} {c c' : Cell} (h : snU look c = some c') (ho : okU look c) : snap look c = some c' := by
  unfold snU at h
  split at h
  · injection h with h; subst h; rfl
  · rename_i id ep len
    split at h
    · rename_i ep' sz rows hl
      injection h with h; subst h
      simp only [okU, hl] at ho
      obtain ⟨rfl, rfl⟩ := ho
      simp [snap, rowsOf, hl]
    · simp at h
  · rename_i h1 h2
    injection h with h; subst h
    unfold snap
    split
    · exact absurd rfl h1
    · rename_i id ep len; exact absurd rfl (h2 id ep len)
    · rfl
def snUs (look : Look) : List Cell → Option (List Cell)
  | [] => some []
  | c :: r => match snU look c, snUs look r with
    | some x, some xs => some (x :: xs)
    | _, _ => none
def okUs (look : Look) : List Cell → Prop
  | [] => True
  | c :: r => okU look c ∧ okUs look r
theorem snUs_eq {look : Look} : ∀ {cs cs' : List Cell}, snUs look cs = some cs' → okUs look cs → snapAll look cs = some cs'
  | [], cs', h, _ => h
  | c :: r, cs', h, ho => by
    simp only [snUs] at h
    cases h1 : snU look c with
    | none => simp [h1] at h
    | some x =>
    cases h2 : snUs look r with
    | none => simp [h1, h2] at h
    | some xs =>
    simp only [h1, h2, Option.some.injEq] at h; subst h
    simp only [snapAll, snU_eq h1 ho.1, snUs_eq h2 ho.2]
def snUF (look : Look) : FV → Option FV
  | .one c => match snU look c with
    | some c => some (.one c)
    | none => none
  | .agg cs => match snUs look cs with
    | some cs => some (.agg cs)
    | none => none
def okUF (look : Look) : FV → Prop
  | .one c => okU look c
  | .agg cs => okUs look cs
theorem snUF_eq {look : Look} {x x' : FV} (h : snUF look x = some x') (ho : okUF look x) : snapF look x = some x' := by
  cases x with
  | one c =>
    simp only [snUF] at h
    cases h1 : snU look c with
    | none => simp [h1] at h
    | some y => simp only [h1, Option.some.injEq] at h; subst h; simp only [snapF, snU_eq h1 ho, Option.map_some]
  | agg cs =>
    simp only [snUF] at h
    cases h1 : snUs look cs with
    | none => simp [h1] at h
    | some y => simp only [h1, Option.some.injEq] at h; subst h; simp only [snapF, snUs_eq h1 ho, Option.map_some]
def snUFs (look : Look) : List FV → Option (List FV)
  | [] => some []
  | c :: r => match snUF look c, snUFs look r with
    | some x, some xs => some (x :: xs)
    | _, _ => none
def okUFs (look : Look) : List FV → Prop
  | [] => True
  | c :: r => okUF look c ∧ okUFs look r
theorem snUFs_eq {look : Look} : ∀ {cs cs' : List FV}, snUFs look cs = some cs' → okUFs look cs → snapFs look cs = some cs'
  | [], cs', h, _ => h
  | c :: r, cs', h, ho => by
    simp only [snUFs] at h
    cases h1 : snUF look c with
    | none => simp [h1] at h
    | some x =>
    cases h2 : snUFs look r with
    | none => simp [h1, h2] at h
    | some xs =>
    simp only [h1, h2, Option.some.injEq] at h; subst h
    simp only [snapFs, snUF_eq h1 ho.1, snUFs_eq h2 ho.2]
def snUV (look : Look) : V → Option V
  | .one c => match snU look c with
    | some c => some (.one c)
    | none => none
  | .agg cs => match snUs look cs with
    | some cs => some (.agg cs)
    | none => none
  | .tup xs => match snUFs look xs with
    | some xs => some (.tup xs)
    | none => none
  | .undef => none
def okUV (look : Look) : V → Prop
  | .one c => okU look c
  | .agg cs => okUs look cs
  | .tup xs => okUFs look xs
  | .undef => True
theorem snUV_eq {look : Look} {x x' : V} (h : snUV look x = some x') (ho : okUV look x) : snapV look x = some x' := by
  cases x with
  | one c =>
    simp only [snUV] at h
    cases h1 : snU look c with
    | none => simp [h1] at h
    | some y => simp only [h1, Option.some.injEq] at h; subst h; simp only [snapV, snU_eq h1 ho, Option.map_some]
  | agg cs =>
    simp only [snUV] at h
    cases h1 : snUs look cs with
    | none => simp [h1] at h
    | some y => simp only [h1, Option.some.injEq] at h; subst h; simp only [snapV, snUs_eq h1 ho, Option.map_some]
  | tup xs =>
    simp only [snUV] at h
    cases h1 : snUFs look xs with
    | none => simp [h1] at h
    | some y => simp only [h1, Option.some.injEq] at h; subst h; simp only [snapV, snUFs_eq h1 ho, Option.map_some]
  | undef => simp [snUV] at h
def snUVs (look : Look) : List V → Option (List V)
  | [] => some []
  | c :: r => match snUV look c, snUVs look r with
    | some x, some xs => some (x :: xs)
    | _, _ => none
def okUVs (look : Look) : List V → Prop
  | [] => True
  | c :: r => okUV look c ∧ okUVs look r
theorem snUVs_eq {look : Look} : ∀ {cs cs' : List V}, snUVs look cs = some cs' → okUVs look cs → snapVs look cs = some cs'
  | [], cs', h, _ => h
  | c :: r, cs', h, ho => by
    simp only [snUVs] at h
    cases h1 : snUV look c with
    | none => simp [h1] at h
    | some x =>
    cases h2 : snUVs look r with
    | none => simp [h1, h2] at h
    | some xs =>
    simp only [h1, h2, Option.some.injEq] at h; subst h
    simp only [snapVs, snUV_eq h1 ho.1, snUVs_eq h2 ho.2]
section
variable {C : Cx} {all l : List Oper} {k : Nat} {e : Env} {σ : St} {o : Oper} {acc : List Rec} {Q : Env → St → Prop}
/-- has an operation a Boolean value that may be open? -/
def isBoolish (T : Tab) (o : Oper) : Bool :=
  isCmp o || match o.op with
    | .load _ _ | .extract _ _ | .index _ _ _ | .field _ _ _ | .unOp _ _ _ | .lookup _ _ _ _ => match T.und o.type with
      | some .bool => true
      | _ => false
    | _ => false
theorem lQ [HasGlob] (hT : C.T.fits C.P) {v v' : V} {e' : Env} (h : WL C all l (k + 1) e' σ Q) (hg : guardOk e all o = some true := by rfl) (hd : dstOk C.n o = true := by rfl) (hm : makes C o = false := by rfl)
    (hop : aop C 0 e σ o = some (v, []) := by rfl) (hv : fV v = some v' := by rfl) (he : nput e o.dst v' = some e' := by rfl) : WL C all (o :: l) k e σ Q := WL.q' hT hg hd hm hop hv he h
theorem lL [HasGlob] (hT : C.T.fits C.P) {rows rows' : List (List D)} {e' : Env} (h : WL C all l (k + 1) e' σ Q) (hb : isBuildSlice o = true := by rfl) (hg : guardOk e all o = some true := by rfl) (hd : dstOk C.n o = true := by rfl) (hm : makes C o = false := by rfl)
    (hop : aop C 0 e σ o = some (.one (.d (.list rows)), []) := by rfl) (hr : fLL rows = some rows' := by rfl) (he : nput e o.dst (.one (.d (.list rows'))) = some e' := by rfl) : WL C all (o :: l) k e σ Q := WL.s' hb hT hg hd hm hop hr he h
theorem lM [HasGlob] (hT : C.T.fits C.P) {v v' : V} {u : Upd} {nid : Nat} {σ' : St} {e' : Env} (h : WL C all l (k + 1) e' σ' Q) (hm : makes C o = true := by rfl) (hg : guardOk e all o = some true := by rfl) (hd : dstOk C.n o = true := by rfl)
    (hn : fNat σ.length = some nid := by rfl) (hop : aop C nid e (σ ++ [.dead]) o = some (v, u) := by rfl) (hv : fV v = some v' := by rfl) (hσ : fS (St.upd (σ ++ [.dead]) u) = some σ' := by rfl) (he : nput e o.dst v' = some e' := by rfl) : WL C all (o :: l) k e σ Q := by
  rw [fNat_eq] at hn; injection hn with hn; subst hn
  exact WL.m' hm hT hg hd hop hv hσ he h
theorem lW [HasGlob] (hT : C.T.fits C.P) {v v' : V} {u : Upd} {σ' : St} {e' : Env} (h : WL C all l (k + 1) e' σ' Q) (hg : guardOk e all o = some true := by rfl) (hd : dstOk C.n o = true := by rfl) (hm : makes C o = false := by rfl)
    (hop : aop C 0 e σ o = some (v, u) := by rfl) (hv : fV v = some v' := by rfl) (hσ : fS (σ.upd u) = some σ' := by rfl) (he : nput e o.dst v' = some e' := by rfl) : WL C all (o :: l) k e σ Q := WL.w' hT hg hd hm hop hv hσ he h
/-- a call of a function that only computes -/
theorem lC [HasGlob] {f : FuncId} {vs vs' : List V} {r r' : V} (hS : Comp C.P f vs' r) {e' : Env} (h : WL C all l (k + 1) e' σ Q) (hg : guardOk e all o = some true := by rfl) (hd : dstOk C.n o = true := by rfl) (hc : calleeOf e o = some (f, vs) := by rfl) (hsn : snUVs (fun id => σ[id]?) vs = some vs' := by rfl) (hso : okUVs (fun id => σ[id]?) vs := by repeat' (first | exact trivial | refine And.intro ?_ ?_ | rfl))
    (hni : vs'.all noIds = true := by rfl) (hr : noIds r = true := by rfl) (hv : fV r = some r' := by rfl) (he : nput e o.dst r' = some e' := by rfl) : WL C all (o :: l) k e σ Q := by
  rw [fV_eq] at hv; injection hv with hv; subst hv
  rw [nput_eq] at he; injection he with he; subst he
  exact WL.c hg hd hc (snUVs_eq hsn hso) hni hS hr h
/-- .. that tells yes or no -/
theorem lCB [HasGlob] {f : FuncId} {vs vs' : List V} {b : Bool} (hS : Comp C.P f vs' (bool b)) {e1 e2 : Env} (ht : b = true → WL C all l (k + 1) e1 σ Q) (hf : b = false → WL C all l (k + 1) e2 σ Q) (hg : guardOk e all o = some true := by rfl) (hd : dstOk C.n o = true := by rfl) (hc : calleeOf e o = some (f, vs) := by rfl) (hsn : snUVs (fun id => σ[id]?) vs = some vs' := by rfl) (hso : okUVs (fun id => σ[id]?) vs := by repeat' (first | exact trivial | refine And.intro ?_ ?_ | rfl))
    (hni : vs'.all noIds = true := by rfl) (he1 : nput e o.dst (bool true) = some e1 := by rfl) (he2 : nput e o.dst (bool false) = some e2 := by rfl) : WL C all (o :: l) k e σ Q := by
  rw [nput_eq] at he1; injection he1 with he1; subst he1
  rw [nput_eq] at he2; injection he2 with he2; subst he2
  cases b with
  | true => exact WL.c hg hd hc (snUVs_eq hsn hso) hni hS rfl (ht rfl)
  | false => exact WL.c hg hd hc (snUVs_eq hsn hso) hni hS rfl (hf rfl)
/-- an element of a list that is not written out -/
theorem lX [HasGlob] (hT : C.T.fits C.P) {t : TypeId} {x i : Operand} {et : TypeId} {n : Nat} {rows : List (List D)} {kx : IntKind} {j : Int} {row row' : List D} {e' : Env} (h : WL C all l (k + 1) e' σ Q) (ho : o.op = .indexAddr t x i := by rfl) (hg : guardOk e all o = some true := by rfl) (hd : dstOk C.n o = true := by rfl)
    (h1 : C.T.und t = some (.slice et) := by rfl) (h2 : C.T.size et = some n := by rfl) (hx : ev (opEnv e o) x = some (.one (.d (.list rows))) := by rfl) (hi : ev (opEnv e o) i = some (.one (.d (.sc (.int kx j)))) := by rfl)
    (h3 : rows[j.toNat]? = some row := by first | assumption | exact at_mid (by assumption) (by assumption) | exact at_of (by assumption)) (h4 : 0 ≤ j := by first | omega | assumption) (h5 : row.length = n := by rfl) (h6 : fL row = some row' := by rfl) (he : nput e o.dst (.one (.rptr row')) = some e' := by rfl) : WL C all (o :: l) k e σ Q := by
  rw [fL_eq] at h6; injection h6 with h6; subst h6
  have hm : makes C o = false := by unfold makes; rw [ho]
  exact WL.q' hT hg hd hm (aop_ix ho h1 h2 hx hi h4 h3 h5) (fV_eq _) he h
theorem dX [HasGlob] (hT : C.T.fits C.P) {t : TypeId} {x i : Operand} {et : TypeId} {n : Nat} {rows : List (List D)} {kx : IntKind} {j : Int} {row row' : List D} {e' : Env} {T F : List Nat} (h : DL C all l (k + 1) e' σ (⟨o.dst, .undef, [], T, F, [], []⟩ :: acc) Q) (ho : o.op = .indexAddr t x i := by rfl) (hg : guardOk e all o = some true := by rfl) (hd : dstOk C.n o = true := by rfl)
    (h1 : C.T.und t = some (.slice et) := by rfl) (h2 : C.T.size et = some n := by rfl) (hx : ev (opEnv e o) x = some (.one (.d (.list rows))) := by rfl) (hi : ev (opEnv e o) i = some (.one (.d (.sc (.int kx j)))) := by rfl)
    (h3 : rows[j.toNat]? = some row := by first | assumption | exact at_mid (by assumption) (by assumption) | exact at_of (by assumption)) (h4 : 0 ≤ j := by first | omega | assumption) (h5 : row.length = n := by rfl) (h6 : fL row = some row' := by rfl) (hT' : fL (reads all o) = some T := by rfl) (hF' : fL (foot (opEnv e o) o) = some F := by rfl) (he : nput e o.dst (.one (.rptr row')) = some e' := by rfl) : DL C all (o :: l) k e σ acc Q := by
  rw [fL_eq] at h6; injection h6 with h6; subst h6
  have hm : makes C o = false := by unfold makes; rw [ho]
  exact DL.q' hT hg hd hm (aop_ix ho h1 h2 hx hi h4 h3 h5) (fV_eq _) hT' hF' he h
/-- an element of a growing array -/
theorem lXa [HasGlob] (hT : C.T.fits C.P) {t : TypeId} {x i : Operand} {et : TypeId} {n id ep len : Nat} {rows : List (List D)} {kx : IntKind} {j : Int} {row row' : List D} {e' : Env} (h : WL C all l (k + 1) e' σ Q) (ho : o.op = .indexAddr t x i := by rfl) (hg : guardOk e all o = some true := by rfl) (hd : dstOk C.n o = true := by rfl)
    (h1 : C.T.und t = some (.slice et) := by rfl) (h2 : C.T.size et = some n := by rfl) (hx : ev (opEnv e o) x = some (.one (.arr id ep len)) := by rfl) (hi : ev (opEnv e o) i = some (.one (.d (.sc (.int kx j)))) := by rfl) (hl : inFoot (foot (opEnv e o) o) σ id = some (.arr ep false n rows) := by rfl) (hn : len = rows.length := by rfl)
    (h3 : rows[j.toNat]? = some row := by first | assumption | exact at_mid (by assumption) (by assumption) | exact at_of (by assumption)) (h4 : 0 ≤ j := by first | omega | assumption) (h6 : fL row = some row' := by rfl) (he : nput e o.dst (.one (.rptr row')) = some e' := by rfl) : WL C all (o :: l) k e σ Q := by
  rw [fL_eq] at h6; injection h6 with h6; subst h6
  have hm : makes C o = false := by unfold makes; rw [ho]
  exact WL.q' hT hg hd hm (aop_ixa ho h1 h2 hx hi hl hn h4 h3) (fV_eq _) he h
/-- x[lo:hi] of a list -/
theorem lK [HasGlob] (hT : C.T.fits C.P) {t : TypeId} {x : Operand} {lo hi : Option Operand} {et : TypeId} {n : Nat} {rows rows' : List (List D)} {a b : Option Int} {e' : Env} (h : WL C all l (k + 1) e' σ Q) (ho : o.op = .slice t x lo hi none := by rfl) (hg : guardOk e all o = some true := by rfl) (hd : dstOk C.n o = true := by rfl)
    (ht : C.T.elem t = some et := by rfl) (hsz : C.T.size et = some n := by rfl) (hx : ev (opEnv e o) x = some (.one (.d (.list rows))) := by rfl) (hlo : bound (ev (opEnv e o)) lo = some a := by rfl) (hhi : bound (ev (opEnv e o)) hi = some b := by rfl) (hok : rowsOk n rows = true := by first | rfl | exact rowsOk_map_of (fun _ => rfl))
    (h1 : 0 ≤ a.getD 0 := by simp only [List.length_map, List.length_append, List.length_cons, List.length_nil, List.length_replicate, Option.getD]; omega) (h2 : a.getD 0 ≤ b.getD rows.length := by simp only [List.length_map, List.length_append, List.length_cons, List.length_nil, List.length_replicate, Option.getD]; omega) (h3 : b.getD rows.length ≤ rows.length := by simp only [List.length_map, List.length_append, List.length_cons, List.length_nil, List.length_replicate, Option.getD]; omega)
    (hr : (rows.take (b.getD rows.length).toNat).drop (a.getD 0).toNat = rows' := by rfl) (he : nput e o.dst (.one (.d (.list rows'))) = some e' := by rfl) : WL C all (o :: l) k e σ Q := by
  subst hr
  have hm : makes C o = false := by unfold makes; rw [ho]
  exact WL.q' hT hg hd hm (aop_cut ho ht hsz hx hlo hhi hok h1 h2 h3) (fV_eq _) he h
theorem dK [HasGlob] (hT : C.T.fits C.P) {t : TypeId} {x : Operand} {lo hi : Option Operand} {et : TypeId} {n : Nat} {rows rows' : List (List D)} {a b : Option Int} {e' : Env} {T F : List Nat} (h : DL C all l (k + 1) e' σ (⟨o.dst, .undef, [], T, F, [], []⟩ :: acc) Q) (ho : o.op = .slice t x lo hi none := by rfl) (hg : guardOk e all o = some true := by rfl) (hd : dstOk C.n o = true := by rfl)
    (ht : C.T.elem t = some et := by rfl) (hsz : C.T.size et = some n := by rfl) (hx : ev (opEnv e o) x = some (.one (.d (.list rows))) := by rfl) (hlo : bound (ev (opEnv e o)) lo = some a := by rfl) (hhi : bound (ev (opEnv e o)) hi = some b := by rfl) (hok : rowsOk n rows = true := by first | rfl | exact rowsOk_map_of (fun _ => rfl))
    (h1 : 0 ≤ a.getD 0 := by simp only [List.length_map, List.length_append, List.length_cons, List.length_nil, List.length_replicate, Option.getD]; omega) (h2 : a.getD 0 ≤ b.getD rows.length := by simp only [List.length_map, List.length_append, List.length_cons, List.length_nil, List.length_replicate, Option.getD]; omega) (h3 : b.getD rows.length ≤ rows.length := by simp only [List.length_map, List.length_append, List.length_cons, List.length_nil, List.length_replicate, Option.getD]; omega)
    (hr : (rows.take (b.getD rows.length).toNat).drop (a.getD 0).toNat = rows' := by rfl) (hT' : fL (reads all o) = some T := by rfl) (hF' : fL (foot (opEnv e o) o) = some F := by rfl) (he : nput e o.dst (.one (.d (.list rows'))) = some e' := by rfl) : DL C all (o :: l) k e σ acc Q := by
  subst hr
  have hm : makes C o = false := by unfold makes; rw [ho]
  exact DL.q' hT hg hd hm (aop_cut ho ht hsz hx hlo hhi hok h1 h2 h3) (fV_eq _) hT' hF' he h
/-- bytes as a string -/
theorem lSt [HasGlob] (hT : C.T.fits C.P) {src dst : TypeId} {x : Operand} {et : TypeId} {v : V} {rows : List (List D)} {bs : List UInt8} {e' : Env} (h : WL C all l (k + 1) e' σ Q) (ho : o.op = .convert src dst x := by rfl) (hg : guardOk e all o = some true := by rfl) (hd : dstOk C.n o = true := by rfl)
    (h1 : C.T.und src = some (.slice et) := by rfl) (h2 : C.T.und dst = some .string := by rfl) (h3 : C.T.und et = some (.int .u8) := by rfl) (hx : ev (opEnv e o) x = some v := by rfl) (hnot : (match v with | .one (.d (.sc (.string _))) => false | _ => true) = true := by rfl)
    (hr : rowsIn (inFoot (foot (opEnv e o) o) σ) v = some rows := by first | rfl | exact rowsIn_arr rfl rfl) (hb : bytesOf rows = some bs := by first | rfl | exact bytesOf_map _) (he : nput e o.dst (.one (.d (.sc (.string ⟨bs.toArray⟩)))) = some e' := by rfl) : WL C all (o :: l) k e σ Q := by
  have hm : makes C o = false := by unfold makes; rw [ho]
  exact WL.q' hT hg hd hm (aop_str ho h1 h2 h3 hx hnot hr hb) (fV_eq _) he h
theorem dSt [HasGlob] (hT : C.T.fits C.P) {src dst : TypeId} {x : Operand} {et : TypeId} {v : V} {rows : List (List D)} {bs : List UInt8} {e' : Env} {T F : List Nat} (h : DL C all l (k + 1) e' σ (⟨o.dst, .undef, [], T, F, [], []⟩ :: acc) Q) (ho : o.op = .convert src dst x := by rfl) (hg : guardOk e all o = some true := by rfl) (hd : dstOk C.n o = true := by rfl)
    (h1 : C.T.und src = some (.slice et) := by rfl) (h2 : C.T.und dst = some .string := by rfl) (h3 : C.T.und et = some (.int .u8) := by rfl) (hx : ev (opEnv e o) x = some v := by rfl) (hnot : (match v with | .one (.d (.sc (.string _))) => false | _ => true) = true := by rfl)
    (hr : rowsIn (inFoot (foot (opEnv e o) o) σ) v = some rows := by first | rfl | exact rowsIn_arr rfl rfl) (hb : bytesOf rows = some bs := by first | rfl | exact bytesOf_map _) (hT' : fL (reads all o) = some T := by rfl) (hF' : fL (foot (opEnv e o) o) = some F := by rfl) (he : nput e o.dst (.one (.d (.sc (.string ⟨bs.toArray⟩)))) = some e' := by rfl) : DL C all (o :: l) k e σ acc Q := by
  have hm : makes C o = false := by unfold makes; rw [ho]
  exact DL.q' hT hg hd hm (aop_str ho h1 h2 h3 hx hnot hr hb) (fV_eq _) hT' hF' he h
theorem lSA [HasGlob] (hT : C.T.fits C.P) {t t' : TypeId} {x y : Operand} {a b : ByteArray} {e' : Env} (h : WL C all l (k + 1) e' σ Q) (ho : o.op = .binOp .add t x y t' := by rfl) (hg : guardOk e all o = some true := by rfl) (hd : dstOk C.n o = true := by rfl)
    (hx : ev (opEnv e o) x = some (.one (.d (.sc (.string a)))) := by rfl) (hy : ev (opEnv e o) y = some (.one (.d (.sc (.string b)))) := by rfl) (hs : a.size + b.size < 2 ^ 63 := by first | omega | (simp only [ByteArray.size, List.size_toArray]; omega)) (he : nput e o.dst (.one (.d (.sc (.string (a ++ b))))) = some e' := by rfl) : WL C all (o :: l) k e σ Q := by
  have hm : makes C o = false := by unfold makes; rw [ho]
  exact WL.q' hT hg hd hm (aop_sadd ho hx hy hs) (fV_eq _) he h
theorem dSA [HasGlob] (hT : C.T.fits C.P) {t t' : TypeId} {x y : Operand} {a b : ByteArray} {e' : Env} {T F : List Nat} (h : DL C all l (k + 1) e' σ (⟨o.dst, .undef, [], T, F, [], []⟩ :: acc) Q) (ho : o.op = .binOp .add t x y t' := by rfl) (hg : guardOk e all o = some true := by rfl) (hd : dstOk C.n o = true := by rfl)
    (hx : ev (opEnv e o) x = some (.one (.d (.sc (.string a)))) := by rfl) (hy : ev (opEnv e o) y = some (.one (.d (.sc (.string b)))) := by rfl) (hs : a.size + b.size < 2 ^ 63 := by first | omega | (simp only [ByteArray.size, List.size_toArray]; omega)) (hT' : fL (reads all o) = some T := by rfl) (hF' : fL (foot (opEnv e o) o) = some F := by rfl) (he : nput e o.dst (.one (.d (.sc (.string (a ++ b))))) = some e' := by rfl) : DL C all (o :: l) k e σ acc Q := by
  have hm : makes C o = false := by unfold makes; rw [ho]
  exact DL.q' hT hg hd hm (aop_sadd ho hx hy hs) (fV_eq _) hT' hF' he h
/-- make of a slice -/
theorem lMk [HasGlob] (hT : C.T.fits C.P) {t et : TypeId} {x y : Operand} {n w : Nat} {z : Value} {zr : List D} {m : Bool} {k1 k2 : IntKind} {len : Int} {nid : Nat} {σ' : St} {e' : Env} (h : WL C all l (k + 1) e' σ' Q) (ho : o.op = .makeSlice t x y := by rfl) (hg : guardOk e all o = some true := by rfl) (hd : dstOk C.n o = true := by rfl)
    (hl : ev (opEnv e o) x = some (.one (.d (.sc (.int k1 len)))) := by rfl) (hc : ev (opEnv e o) y = some (.one (.d (.sc (.int k2 len)))) := by rfl) (ht : C.T.elem t = some et := by rfl) (hs : C.T.size et = some n := by rfl) (hb : C.T.bytes et = some (w + 1) := by rfl) (hz : C.T.zero et = some z := by rfl) (hzr : fL (z.cells.toList.map .sc) = some zr := by rfl)
    (h0 : 0 ≤ len := by omega) (h1 : len * ((w + 1 : Nat) : Int) ≤ most := by simp only [most]; omega) (h2 : len < 2 ^ 62 := by omega) (hzc : (Nat.beq z.cells.size n && allPlain z.cells.toList) = true := by rfl) (hm : arMode C.ar o.dst = some m := by rfl) (hn' : fNat σ.length = some nid := by rfl)
    (hσ : fS (St.upd (σ ++ [.dead]) [(nid, .arr 0 m n (List.replicate len.toNat zr))]) = some σ' := by rfl) (he : nput e o.dst (.one (.arr nid 0 (List.replicate len.toNat zr).length)) = some e' := by rfl) : WL C all (o :: l) k e σ Q := by
  rw [fNat_eq] at hn'; injection hn' with hn'; subst hn'
  rw [List.length_replicate] at he
  rw [fL_eq] at hzr; injection hzr with hzr; subst hzr
  have hmk : makes C o = true := by unfold makes; rw [ho]; simp only [hm]; rfl
  exact WL.m' hmk hT hg hd (aop_make ho hl hc ht hs hb hz h0 h1 h2 hzc hm) (fV_eq _) hσ he h
/-- onto a growing array -/
theorem lA [HasGlob] (hT : C.T.fits C.P) {s x : Operand} {t t' et : TypeId} {n w id ep len : Nat} {m : Bool} {z : List Cell} {rows xs : List (List D)} {xv : V} {σ' : St} {e' : Env} (h : WL C all l (k + 1) e' σ' Q) (ho : o.op = .call { callee := .builtin .append, args := #[s, x], argTypes := #[t, t'] } := by rfl) (hg : guardOk e all o = some true := by rfl) (hd : dstOk C.n o = true := by rfl) (hm : makes C o = false := by rfl)
    (hs : ev (opEnv e o) s = some (.one (.arr id ep len)) := by rfl) (hx : ev (opEnv e o) x = some xv := by rfl) (ht' : C.T.und t' = some (.slice et) := by rfl) (ht : C.T.elem t = some et := by rfl) (hsz : C.T.size et = some n := by rfl) (hby : C.T.bytes et = some (w + 1) := by rfl) (hz : zeroCells C.T et = some z := by rfl) (hzn : z.length = n := by rfl)
    (hl : inFoot (foot (opEnv e o) o) σ id = some (.arr ep m n rows) := by rfl) (hn : len = rows.length := by rfl) (hxs : rowsIn (inFoot (foot (opEnv e o) o) σ) xv = some xs := by first | rfl | exact rowsIn_arr rfl rfl) (hok : rowsOk n xs = true := by first | rfl | exact rowsOk_map_of (fun _ => rfl))
    (hsm : (rows.length + xs.length) * (w + 1) ≤ most := by simp only [most, List.length_map, List.length_append, List.length_cons, List.length_nil, List.length_replicate]; omega) (hσ : fS (σ.upd [(id, .arr ep m n (rows ++ xs))]) = some σ' := by rfl) (he : nput e o.dst (.one (.arr id ep (rows ++ xs).length)) = some e' := by rfl) : WL C all (o :: l) k e σ Q := by
  rw [List.length_append] at he
  exact WL.w' hT hg hd hm (aop_app ho hs hx ht' ht hsz hby hz hzn hl hn hxs hok hsm) (fV_eq _) hσ he h
/-- onto nil: a list -/
theorem lA0 [HasGlob] (hT : C.T.fits C.P) {s x : Operand} {t t' et : TypeId} {n w : Nat} {z : List Cell} {xs : List (List D)} {xv : V} {e' : Env} (h : WL C all l (k + 1) e' σ Q) (ho : o.op = .call { callee := .builtin .append, args := #[s, x], argTypes := #[t, t'] } := by rfl) (hg : guardOk e all o = some true := by rfl) (hd : dstOk C.n o = true := by rfl) (hm : arMode C.ar o.dst = none := by rfl)
    (hs : ev (opEnv e o) s = some (.one (.d (.sc (.slice none 0 0)))) := by rfl) (hx : ev (opEnv e o) x = some xv := by rfl) (ht' : C.T.und t' = some (.slice et) := by rfl) (ht : C.T.elem t = some et := by rfl) (hsz : C.T.size et = some n := by rfl) (hby : C.T.bytes et = some (w + 1) := by rfl) (hz : zeroCells C.T et = some z := by rfl) (hzn : z.length = n := by rfl)
    (hxs : rowsIn (inFoot (foot (opEnv e o) o) σ) xv = some xs := by first | rfl | exact rowsIn_arr rfl rfl) (hok : rowsOk n xs = true := by first | rfl | exact rowsOk_map_of (fun _ => rfl))
    (hsm : xs.length * (w + 1) ≤ most := by simp only [most, List.length_map, List.length_append, List.length_cons, List.length_nil, List.length_replicate]; omega) (he : nput e o.dst (.one (.d (.list xs))) = some e' := by rfl) : WL C all (o :: l) k e σ Q := by
  have hmk : makes C o = false := by unfold makes; rw [ho]; simp only [hm]; rfl
  exact WL.q' hT hg hd hmk (aop_app0 ho hs hx ht' ht hsz hby hz hzn hxs hok hsm hm) (fV_eq _) he h
/-- onto nil: an array of its own -/
theorem lA1 [HasGlob] (hT : C.T.fits C.P) {s x : Operand} {t t' et : TypeId} {n w : Nat} {m : Bool} {z : List Cell} {xs : List (List D)} {xv : V} {nid : Nat} {σ' : St} {e' : Env} (h : WL C all l (k + 1) e' σ' Q) (ho : o.op = .call { callee := .builtin .append, args := #[s, x], argTypes := #[t, t'] } := by rfl) (hg : guardOk e all o = some true := by rfl) (hd : dstOk C.n o = true := by rfl) (hm : arMode C.ar o.dst = some m := by rfl) (hn' : fNat σ.length = some nid := by rfl)
    (hs : ev (opEnv e o) s = some (.one (.d (.sc (.slice none 0 0)))) := by rfl) (hx : ev (opEnv e o) x = some xv := by rfl) (ht' : C.T.und t' = some (.slice et) := by rfl) (ht : C.T.elem t = some et := by rfl) (hsz : C.T.size et = some n := by rfl) (hby : C.T.bytes et = some (w + 1) := by rfl) (hz : zeroCells C.T et = some z := by rfl) (hzn : z.length = n := by rfl)
    (hxs : rowsIn (inFoot (foot (opEnv e o) o) (σ ++ [.dead])) xv = some xs := by first | rfl | exact rowsIn_arr rfl rfl) (hok : rowsOk n xs = true := by first | rfl | exact rowsOk_map_of (fun _ => rfl))
    (hsm : xs.length * (w + 1) ≤ most := by simp only [most, List.length_map, List.length_append, List.length_cons, List.length_nil, List.length_replicate]; omega) (hσ : fS (St.upd (σ ++ [.dead]) [(nid, .arr 0 m n xs)]) = some σ' := by rfl) (he : nput e o.dst (.one (.arr nid 0 xs.length)) = some e' := by rfl) : WL C all (o :: l) k e σ Q := by
  rw [fNat_eq] at hn'; injection hn' with hn'; subst hn'
  have hmk : makes C o = true := by unfold makes; rw [ho]; simp only [hm]; rfl
  exact WL.m' hmk hT hg hd (aop_app0m ho hs hx ht' ht hsz hby hz hzn hxs hok hsm hm) (fV_eq _) hσ he h
theorem dQ [HasGlob] (hT : C.T.fits C.P) {v v' : V} {e' : Env} {T F : List Nat} (h : DL C all l (k + 1) e' σ (⟨o.dst, .undef, [], T, F, [], []⟩ :: acc) Q) (hg : guardOk e all o = some true := by rfl) (hd : dstOk C.n o = true := by rfl) (hm : makes C o = false := by rfl)
    (hop : aop C 0 e σ o = some (v, []) := by rfl) (hv : fV v = some v' := by rfl) (hT' : fL (reads all o) = some T := by rfl) (hF' : fL (foot (opEnv e o) o) = some F := by rfl) (he : nput e o.dst v' = some e' := by rfl) : DL C all (o :: l) k e σ acc Q := DL.q' hT hg hd hm hop hv hT' hF' he h
theorem dL [HasGlob] (hT : C.T.fits C.P) {rows rows' : List (List D)} {e' : Env} {T F : List Nat} (h : DL C all l (k + 1) e' σ (⟨o.dst, .undef, [], T, F, [], []⟩ :: acc) Q) (hb : isBuildSlice o = true := by rfl) (hg : guardOk e all o = some true := by rfl) (hd : dstOk C.n o = true := by rfl) (hm : makes C o = false := by rfl)
    (hop : aop C 0 e σ o = some (.one (.d (.list rows)), []) := by rfl) (hr : fLL rows = some rows' := by rfl) (hT' : fL (reads all o) = some T := by rfl) (hF' : fL (foot (opEnv e o) o) = some F := by rfl) (he : nput e o.dst (.one (.d (.list rows'))) = some e' := by rfl) : DL C all (o :: l) k e σ acc Q := DL.s' hb hT hg hd hm hop hr hT' hF' he h
theorem dW [HasGlob] (hT : C.T.fits C.P) {v v' : V} {u : Upd} {σ' : St} {e' : Env} {T F ws : List Nat} (h : DL C all l (k + 1) e' σ' (⟨o.dst, .undef, ws.map fun i => (i, .dead), T, F, [], []⟩ :: acc) Q) (hg : guardOk e all o = some true := by rfl) (hd : dstOk C.n o = true := by rfl) (hm : makes C o = false := by rfl)
    (hop : aop C 0 e σ o = some (v, u) := by rfl) (hv : fV v = some v' := by rfl) (hσ : fS (σ.upd u) = some σ' := by rfl) (hT' : fL (reads all o) = some T := by rfl) (hF' : fL (foot (opEnv e o) o) = some F := by rfl) (hw : fL (u.map (·.1)) = some ws := by rfl) (he : nput e o.dst v' = some e' := by rfl) : DL C all (o :: l) k e σ acc Q := DL.w' hT hg hd hm hop hv hσ hT' hF' hw he h
theorem dM [HasGlob] (hT : C.T.fits C.P) {nid : Nat} {v v' : V} {u : Upd} {σ' : St} {e' : Env} {T F ws : List Nat} (h : DL C all l (k + 1) e' σ' (⟨o.dst, .undef, ws.map fun i => (i, .dead), T, F, [], []⟩ :: acc) Q) (hm : makes C o = true := by rfl) (hg : guardOk e all o = some true := by rfl) (hd : dstOk C.n o = true := by rfl) (hn : fdead σ 0 = some nid := by rfl)
    (hop : aop C nid e σ o = some (v, u) := by rfl) (hv : fV v = some v' := by rfl) (hσ : fS (σ.upd u) = some σ' := by rfl) (hT' : fL (reads all o) = some T := by rfl) (hF' : fL (foot (opEnv e o) o) = some F := by rfl) (hw : fL (u.map (·.1)) = some ws := by rfl) (hin : ws.elem nid = true := by rfl) (he : nput e o.dst v' = some e' := by rfl) : DL C all (o :: l) k e σ acc Q := DL.m' hm hT hg hd hn hop hv hσ hT' hF' hw hin he h
theorem dMk [HasGlob] (hT : C.T.fits C.P) {t et : TypeId} {x y : Operand} {n w : Nat} {z : Value} {zr : List D} {m : Bool} {k1 k2 : IntKind} {len : Int} {nid : Nat} {σ' : St} {e' : Env} {T F : List Nat} (h : DL C all l (k + 1) e' σ' (⟨o.dst, .undef, [(nid, .dead)], T, F, [], []⟩ :: acc) Q) (ho : o.op = .makeSlice t x y := by rfl) (hg : guardOk e all o = some true := by rfl) (hd : dstOk C.n o = true := by rfl)
    (hl : ev (opEnv e o) x = some (.one (.d (.sc (.int k1 len)))) := by rfl) (hc : ev (opEnv e o) y = some (.one (.d (.sc (.int k2 len)))) := by rfl) (ht : C.T.elem t = some et := by rfl) (hs : C.T.size et = some n := by rfl) (hb : C.T.bytes et = some (w + 1) := by rfl) (hz : C.T.zero et = some z := by rfl) (hzr : fL (z.cells.toList.map .sc) = some zr := by rfl)
    (h0 : 0 ≤ len := by omega) (h1 : len * ((w + 1 : Nat) : Int) ≤ most := by simp only [most]; omega) (h2 : len < 2 ^ 62 := by omega) (hzc : (Nat.beq z.cells.size n && allPlain z.cells.toList) = true := by rfl) (hm : arMode C.ar o.dst = some m := by rfl) (hn : fdead σ 0 = some nid := by rfl)
    (hσ : fS (St.upd σ [(nid, .arr 0 m n (List.replicate len.toNat zr))]) = some σ' := by rfl) (hT' : fL (reads all o) = some T := by rfl) (hF' : fL (foot (opEnv e o) o) = some F := by rfl) (he : nput e o.dst (.one (.arr nid 0 (List.replicate len.toNat zr).length)) = some e' := by rfl) : DL C all (o :: l) k e σ acc Q := by
  rw [List.length_replicate] at he
  rw [fL_eq] at hzr; injection hzr with hzr; subst hzr
  have hmk : makes C o = true := by unfold makes; rw [ho]; simp only [hm]; rfl
  exact DL.m' hmk hT hg hd hn (aop_make ho hl hc ht hs hb hz h0 h1 h2 hzc hm) (fV_eq _) hσ hT' hF' (ws := [nid]) (by rw [fL_eq]; rfl) (by simp) he h
theorem dN [HasGlob] (hT : C.T.fits C.P) {nid : Nat} {v v' : V} {u : Upd} {σ' : St} {e' : Env} {T F ws : List Nat} (h : DL C all l (k + 1) e' σ' (⟨o.dst, .undef, ws.map fun i => (i, .dead), T, nid :: F, [], []⟩ :: acc) Q) (hm : makes C o = true := by rfl) (hg : guardOk e all o = some true := by rfl) (hd : dstOk C.n o = true := by rfl) (hn : ldead σ 0 none = some nid := by rfl)
    (hop : aop C nid e σ o = some (v, u) := by rfl) (hv : fV v = some v' := by rfl) (hσ : fS (σ.upd u) = some σ' := by rfl) (hT' : fL (reads all o) = some T := by rfl) (hF' : fL (foot (opEnv e o) o) = some F := by rfl) (hw : fL (u.map (·.1)) = some ws := by rfl) (he : nput e o.dst v' = some e' := by rfl) : DL C all (o :: l) k e σ acc Q := DL.n' hm hT hg hd hn hop hv hσ hT' hF' hw he h
theorem dC [HasGlob] {f : FuncId} {vs vs' : List V} {r r' : V} (hS : Comp C.P f vs' r) {e' : Env} {T F : List Nat} (h : DL C all l (k + 1) e' σ (⟨o.dst, .undef, [], T, F, [], []⟩ :: acc) Q) (hic : isCall o = true := by rfl) (hg : guardOk e all o = some true := by rfl) (hd : dstOk C.n o = true := by rfl) (hc : calleeOf (opEnv e o) o = some (f, vs) := by rfl) (hsn : snUVs (inFoot (foot (opEnv e o) o) σ) vs = some vs' := by rfl) (hso : okUVs (inFoot (foot (opEnv e o) o) σ) vs := by repeat' (first | exact trivial | refine And.intro ?_ ?_ | rfl))
    (hni : vs'.all noIds = true := by rfl) (hr : noIds r = true := by rfl) (hv : fV r = some r' := by rfl) (hT' : fL (reads all o) = some T := by rfl) (hF' : fL (foot (opEnv e o) o) = some F := by rfl) (he : nput e o.dst r' = some e' := by rfl) : DL C all (o :: l) k e σ acc Q := by
  rw [fV_eq] at hv; injection hv with hv; subst hv
  exact DL.c' hic hg hd hc (snUVs_eq hsn hso) hni hS hr hT' hF' he h
theorem dCB [HasGlob] {f : FuncId} {vs vs' : List V} {b : Bool} (hS : Comp C.P f vs' (bool b)) {e1 e2 : Env} {T F : List Nat} (ht : b = true → DL C all l (k + 1) e1 σ (⟨o.dst, .undef, [], T, F, [], []⟩ :: acc) Q) (hf : b = false → DL C all l (k + 1) e2 σ (⟨o.dst, .undef, [], T, F, [], []⟩ :: acc) Q) (hic : isCall o = true := by rfl) (hg : guardOk e all o = some true := by rfl) (hd : dstOk C.n o = true := by rfl) (hc : calleeOf (opEnv e o) o = some (f, vs) := by rfl) (hsn : snUVs (inFoot (foot (opEnv e o) o) σ) vs = some vs' := by rfl) (hso : okUVs (inFoot (foot (opEnv e o) o) σ) vs := by repeat' (first | exact trivial | refine And.intro ?_ ?_ | rfl))
    (hni : vs'.all noIds = true := by rfl) (hT' : fL (reads all o) = some T := by rfl) (hF' : fL (foot (opEnv e o) o) = some F := by rfl) (he1 : nput e o.dst (bool true) = some e1 := by rfl) (he2 : nput e o.dst (bool false) = some e2 := by rfl) : DL C all (o :: l) k e σ acc Q := by
  cases b with
  | true => exact DL.c' hic hg hd hc (snUVs_eq hsn hso) hni hS rfl hT' hF' he1 (ht rfl)
  | false => exact DL.c' hic hg hd hc (snUVs_eq hsn hso) hni hS rfl hT' hF' he2 (hf rfl)
end
section
variable {C : Cx} {e : Env} {σ : St} {Q : Ex → Env → St → Prop}
/-- a function's end -/
theorem fR {ex : Ex} {rs : List ResultVar} {n : Nat} {R : V → St → Prop} {vs : List V} {v r r' : V} {σ' : St} (h7 : R r' σ') (hx : ex = .normal ∨ ex = .ret := by first | exact .inr rfl | exact .inl rfl) (h1 : resOf C.T e (fun id => σ[id]?) rs = some vs := by rfl) (h2 : tupled vs = some v := by rfl) (h3 : snUV (fun id => σ[id]?) v = some r := by rfl) (h3o : okUV (fun id => σ[id]?) v := by repeat' (first | exact trivial | refine And.intro ?_ ?_ | rfl)) (hr : fV r = some r' := by rfl)
    (h4 : fS (σ.take n) = some σ' := by rfl) (h5 : r'.under (alive σ') = true := by rfl) (h6 : (σ'.all fun o => o.under (alive σ')) = true := by rfl) : (ex = .normal ∨ ex = .ret) ∧ Fin C rs n e σ R := ⟨hx, Fin.mk h1 h2 (snUV_eq h3 h3o) hr h4 h5 h6 h7⟩
/-- .. that hands back references, or keeps new objects -/
theorem fR' {ex : Ex} {rs : List ResultVar} {n : Nat} {R : V → St → Prop} {vs : List V} {v r' : V} {σ' : St} (h7 : R r' σ') (hx : ex = .normal ∨ ex = .ret := by first | exact .inr rfl | exact .inl rfl) (h1 : resOf C.T e (fun id => σ[id]?) rs = some vs := by rfl) (h2 : tupled vs = some v := by rfl) (hr : fV v = some r' := by rfl)
    (h4 : fS σ = some σ' := by rfl) : (ex = .normal ∨ ex = .ret) ∧ Fin C rs n e σ R := by
  rw [fV_eq] at hr; injection hr with hr; subst hr
  rw [fS_eq] at h4; injection h4 with h4; subst h4
  exact ⟨hx, vs, v, v, σ, h1, h2, .inl rfl, .inl rfl, h7⟩
/-! loops, round by round; between two rounds the listed variables alone are kept, and the first k objects -/
/-- some variables, read as data -/
def SnapE (σ : St) (e1 e' : Env) : Prop := ∀ t v, Env.get e' t = some v → ∃ v1, Env.get e1 t = some v1 ∧ (v = v1 ∨ snapV (fun id => σ[id]?) v1 = some v)
theorem SR.snapE [HasGlob] {N : Nat} {κ : K} {w : World} {e e' : Env} {σ : St} {a : Act} (h : SR N κ w e σ a) (hs : SnapE σ e e') : SR N κ w e' σ a :=
  ⟨fun t v ht => by
    obtain ⟨v1, h1, h2⟩ := hs t v ht
    obtain ⟨x, g1, g2, g3⟩ := h.env t v1 h1
    rcases h2 with rfl | h2
    · exact ⟨x, g1, g2, g3⟩
    · exact ⟨x, g1, snapV_sound h.rs (fun _ _ h => h) h2 g2, snapV_under h2 g3⟩, h.rs, h.defers, h.size⟩
/-- a round's end -/
def RoundEnd (R : Env → St → Prop) (k : Nat) (l : List Nat) (e : Env) (σ : St) : Prop := ∃ e1 e' σ', pick l e = some e1 ∧ SnapE σ e1 e' ∧ fS (σ.take k) = some σ' ∧ trims k e' σ = true ∧ R e' σ'
def again2 (R : Env → St → Prop) (k : Nat) (l : List Nat) (Q : Ex → Env → St → Prop) : Ex → Env → St → Prop
  | .normal, e, σ => RoundEnd R k l e σ
  | .exit id, e, σ => Q (.exit id) e σ
  | .ret, e, σ => Q .ret e σ
def WR2 [HasGlob] (C : Cx) (c : Code) (l : List Nat) (k : Nat) (Q : Ex → Env → St → Prop) : Nat → Env → St → Prop
  | 0, _, _ => False
  | n + 1, e, σ => W C c e σ (again2 (fun e σ => σ.length = k ∧ WR2 C c l k Q n e σ) k l Q)
theorem wR [HasGlob] {c : Code} {l : List Nat} {k n : Nat} (h : W C c e σ (again2 (fun e σ => σ.length = k ∧ WR2 C c l k Q n e σ) k l Q)) : WR2 C c l k Q (n + 1) e σ := h
theorem again2.mono {R R' : Env → St → Prop} {k : Nat} {l : List Nat} {ex : Ex} (hr : ∀ e σ, R e σ → R' e σ) (h : again2 R k l Q ex e σ) : again2 R' k l Q ex e σ := by
  cases ex with
  | normal =>
    obtain ⟨e1, e', σ', h1, hs, h2, h3, h4⟩ := h
    exact ⟨e1, e', σ', h1, hs, h2, h3, hr _ _ h4⟩
  | _ => exact h
theorem WR2.mono [HasGlob] {c : Code} {l : List Nat} {k : Nat} : ∀ {n m : Nat} {e : Env} {σ : St}, WR2 C c l k Q n e σ → n ≤ m → WR2 C c l k Q m e σ
  | 0, _, _, _, h, _ => h.elim
  | n + 1, 0, _, _, _, h => absurd h (by omega)
  | n + 1, m + 1, e, σ, h, hle => W.mono (C := C) h fun ex e σ hx => hx.mono fun e σ ⟨h1, h2⟩ => ⟨h1, WR2.mono h2 (by omega)⟩
theorem rE [HasGlob] {c : Code} {k n : Nat} {l : List Nat} {e' : Env} {σ' : St} (h : WR2 C c l k Q n e' σ') (hp : pick l e = some e' := by rfl) (hσ : fS (σ.take k) = some σ' := by rfl) (ht : trims k e' σ = true := by rfl) (hl : σ'.length = k := by rfl) :
    RoundEnd (fun e σ => σ.length = k ∧ WR2 C c l k Q n e σ) k l e σ := ⟨e', e', σ', hp, fun t v h => ⟨v, h, .inl rfl⟩, hσ, ht, hl, h⟩
theorem wLoop [HasGlob] {c : Code} (l : List Nat) (k n : Nat) {e1 : Env} (h : WR2 C c l k Q n e1 σ) (hk : σ.length = k := by rfl) (hp : pick l e = some e1 := by rfl) : W C (.loop c) e σ Q := by
  intro κ0 w0 a0 hs0
  have key : ∀ n e σ' κ w a, WR2 C c l k Q n e σ' → σ'.length = k → Evo κ0 w0 σ κ w σ' → SR C.n κ w e σ' a →
      Code.rounds C.P c (fun x a' w' => ∃ ex e' σ' κ', x = Ex.to ex ∧ Q ex e' σ' ∧ Evo κ0 w0 σ κ' w' σ' ∧ SR C.n κ' w' e' σ' a') n a w := by
    intro n
    induction n with
    | zero => intro e σ' κ w a h; exact h.elim
    | succ n ih =>
      intro e σ' κ w a h hkl hev hs
      refine wp_mono (h κ w a hs) fun x a' w' hx => ?_
      obtain ⟨ex, e'', σ'', κ', rfl, hq, hev', hs'⟩ := hx
      cases ex with
      | exit id => exact ⟨.exit id, e'', σ'', κ', rfl, hq, hev.trans hev', hs'⟩
      | ret => exact ⟨.ret, e'', σ'', κ', rfl, hq, hev.trans hev', hs'⟩
      | normal =>
        obtain ⟨e1', e3, σ3, hp3, hsn, h4, ht, h5, h6⟩ := hq
        rw [fS_eq] at h4; injection h4 with h4; subst h4
        exact ih _ _ κ' _ _ h6 h5 ((hev.trans hev').take (by omega)) (((hs'.sub (pick_sub hp3)).snapE hsn).take ht)
  exact wp_loop_rounds n (key n e1 σ κ0 w0 a0 h hk .refl (hs0.sub (pick_sub hp)))
end
end Go.Am
