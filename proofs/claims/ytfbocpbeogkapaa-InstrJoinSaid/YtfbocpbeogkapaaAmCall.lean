/- The abstract machine: calls that hand references on: the callee's objects are some of the caller's, under other names. -/
import Derived.Test.YtfbocpbeogkapaaAmLoop
set_option linter.unusedVariables false
set_option linter.unusedSimpArgs false
namespace Go.Am

/-- the callee's object i is the caller's object r[i] -/
def rn : List Nat → Nat → Nat
  | [], _ => 0
  | x :: _, 0 => x
  | _ :: r, i + 1 => rn r i
mutual
def rnC (r : List Nat) : Cell → Cell
  | .d x => .d x
  | .arr id ep len => .arr (rn r id) ep len
  | .ptr id off => .ptr (rn r id) off
  | .eptr id ep len sz idx off => .eptr (rn r id) ep len sz idx off
  | .rptr cs => .rptr cs
  | .map id => .map (rn r id)
  | .fn f a b => .fn f (rnCs r a) (rnCs r b)
def rnCs (r : List Nat) : List Cell → List Cell
  | [] => []
  | c :: cs => rnC r c :: rnCs r cs
end
def rnF (r : List Nat) : FV → FV
  | .one c => .one (rnC r c)
  | .agg cs => .agg (rnCs r cs)
def rnFs (r : List Nat) : List FV → List FV
  | [] => []
  | x :: xs => rnF r x :: rnFs r xs
def rnV (r : List Nat) : V → V
  | .one c => .one (rnC r c)
  | .agg cs => .agg (rnCs r cs)
  | .tup xs => .tup (rnFs r xs)
  | .undef => .undef
def rnVs (r : List Nat) : List V → List V
  | [] => []
  | v :: vs => rnV r v :: rnVs r vs
def rnEs (r : List Nat) : List (Value × FV) → List (Value × FV)
  | [] => []
  | (k, x) :: es => (k, rnF r x) :: rnEs r es
def rnO (r : List Nat) : Ob → Ob
  | .var cs => .var (rnCs r cs)
  | .arr a b c d => .arr a b c d
  | .map es => .map (rnEs r es)
  | .dead => .dead
def rnS (r : List Nat) : St → St
  | [] => []
  | o :: os => rnO r o :: rnS r os

theorem rn_get : ∀ {r : List Nat} {i : Nat}, i < r.length → r[i]? = some (rn r i)
  | [], i, h => by simp at h
  | x :: r, 0, _ => rfl
  | x :: r, i + 1, h => by simpa [rn] using rn_get (r := r) (i := i) (by simpa using h)
theorem rn_append {r s : List Nat} : ∀ {i : Nat}, i < r.length → rn (r ++ s) i = rn r i := by
  intro i h
  have h1 : (r ++ s)[i]? = some (rn (r ++ s) i) := rn_get (by simp; omega)
  rw [List.getElem?_append_left h, rn_get h] at h1
  exact (Option.some.inj h1).symm
theorem rnCs_length (r : List Nat) : ∀ cs, (rnCs r cs).length = cs.length
  | [] => rfl
  | c :: cs => by simp [rnCs, rnCs_length r cs]
theorem rnCs_get (r : List Nat) : ∀ (cs : List Cell) (i : Nat), (rnCs r cs)[i]? = cs[i]?.map (rnC r)
  | [], i => by simp [rnCs]
  | c :: cs, 0 => by simp [rnCs]
  | c :: cs, i + 1 => by simpa [rnCs] using rnCs_get r cs i
theorem rnFs_length (r : List Nat) : ∀ cs, (rnFs r cs).length = cs.length
  | [] => rfl
  | c :: cs => by simp [rnFs, rnFs_length r cs]
theorem rnFs_get (r : List Nat) : ∀ (cs : List FV) (i : Nat), (rnFs r cs)[i]? = cs[i]?.map (rnF r)
  | [], i => by simp [rnFs]
  | c :: cs, 0 => by simp [rnFs]
  | c :: cs, i + 1 => by simpa [rnFs] using rnFs_get r cs i
theorem rnVs_length (r : List Nat) : ∀ cs, (rnVs r cs).length = cs.length
  | [] => rfl
  | c :: cs => by simp [rnVs, rnVs_length r cs]
theorem rnVs_get (r : List Nat) : ∀ (cs : List V) (i : Nat), (rnVs r cs)[i]? = cs[i]?.map (rnV r)
  | [], i => by simp [rnVs]
  | c :: cs, 0 => by simp [rnVs]
  | c :: cs, i + 1 => by simpa [rnVs] using rnVs_get r cs i
theorem rnEs_length (r : List Nat) : ∀ cs, (rnEs r cs).length = cs.length
  | [] => rfl
  | (k, c) :: cs => by simp [rnEs, rnEs_length r cs]
theorem rnEs_get (r : List Nat) : ∀ (cs : List (Value × FV)) (i : Nat), (rnEs r cs)[i]? = cs[i]?.map (fun p => (p.1, rnF r p.2))
  | [], i => by simp [rnEs]
  | (k, c) :: cs, 0 => by simp [rnEs]
  | (k, c) :: cs, i + 1 => by simpa [rnEs] using rnEs_get r cs i
theorem rnS_get (r : List Nat) : ∀ (cs : St) (i : Nat), (rnS r cs)[i]? = cs[i]?.map (rnO r)
  | [], i => by simp [rnS]
  | c :: cs, 0 => by simp [rnS]
  | c :: cs, i + 1 => by simpa [rnS] using rnS_get r cs i
theorem rnS_length (r : List Nat) : ∀ cs, (rnS r cs).length = cs.length
  | [] => rfl
  | c :: cs => by simp [rnS, rnS_length r cs]

/-- two ghosts that speak of the same objects under other names -/
structure Same (r : List Nat) (κ0 κ : K) : Prop where
  S : ∀ b o, κ0.S b o ↔ κ.S b o
  at_ : ∀ i, i < r.length → κ0.at_ i = κ.at_ (rn r i)
  sl : ∀ i ep l, i < r.length → κ0.sl i ep l = κ.sl (rn r i) ep l

def inR (r : List Nat) : Nat → Bool := fun i => Nat.blt i r.length
theorem inR_lt {r : List Nat} {i : Nat} : inR r i = true ↔ i < r.length := by
  unfold inR; exact ⟨fun h => Nat.le_of_ble_eq_true h, fun h => Nat.ble_eq_true_of_le h⟩

theorem Same.dat {r κ0 κ w d v} (hs : Same r κ0 κ) (h : RD κ0.S w d v) : RD κ.S w d v := h.mono (fun b o h => (hs.S b o).1 h) (fun _ _ _ => rfl)
theorem Same.dat' {r κ0 κ w d v} (hs : Same r κ0 κ) (h : RD κ.S w d v) : RD κ0.S w d v := h.mono (fun b o h => (hs.S b o).2 h) (fun _ _ _ => rfl)

theorem Same.out {r κ0 κ w} (hs : Same r κ0 κ) {c : Cell} {v : Value} (h : RC κ0 w c v) (hu : c.under (inR r) = true) : RC κ w (rnC r c) v := by
  induction h with
  | d x v h => exact .d x v (hs.dat h)
  | arr id ep len a cap h => exact .arr _ _ _ a cap (by rw [← hs.sl _ _ _ (inR_lt.1 (by simpa [Cell.under] using hu))]; exact h)
  | ptr id off b h => exact .ptr _ _ b (by rw [← hs.at_ _ (inR_lt.1 (by simpa [Cell.under] using hu))]; exact h)
  | eptr id ep len sz idx off b cap h => exact .eptr _ _ _ _ _ _ b cap (by rw [← hs.sl _ _ _ (inR_lt.1 (by simpa [Cell.under] using hu))]; exact h)
  | rptr ds b off h =>
    refine .rptr ds b off fun j d hj => ?_
    obtain ⟨h1, v, h2, h3⟩ := h j d hj
    exact ⟨(hs.S _ _).1 h1, v, h2, hs.dat h3⟩
  | map id b h => exact .map _ b (by rw [← hs.at_ _ (inR_lt.1 (by simpa [Cell.under] using hu))]; exact h)
  | fn f fs cs xs ys hx hy h h' ih ih' =>
    simp only [Cell.under, Bool.and_eq_true] at hu
    refine .fn f _ _ xs ys (by rw [rnCs_length]; exact hx) (by rw [rnCs_length]; exact hy) (fun i c hc => ?_) (fun i c hc => ?_)
    · rw [rnCs_get, Option.map_eq_some_iff] at hc
      obtain ⟨c0, h1, rfl⟩ := hc
      exact ih i c0 h1 (under_of_mem hu.1 i c0 h1)
    · rw [rnCs_get, Option.map_eq_some_iff] at hc
      obtain ⟨c0, h1, rfl⟩ := hc
      exact ih' i c0 h1 (under_of_mem hu.2 i c0 h1)

theorem Same.in_ {r κ0 κ w} (hs : Same r κ0 κ) {c' : Cell} {v : Value} (h : RC κ w c' v) : ∀ {c : Cell}, c' = rnC r c → c.under (inR r) = true → RC κ0 w c v := by
  induction h with
  | d x v h => intro c hc hu; cases c <;> simp [rnC] at hc; subst hc; exact .d _ v (hs.dat' h)
  | arr id ep len a cap h =>
    intro c hc hu; cases c <;> simp [rnC] at hc
    obtain ⟨rfl, rfl, rfl⟩ := hc
    exact .arr _ _ _ a cap (by rw [hs.sl _ _ _ (inR_lt.1 (by simpa [Cell.under] using hu))]; exact h)
  | ptr id off b h =>
    intro c hc hu; cases c <;> simp [rnC] at hc
    obtain ⟨rfl, rfl⟩ := hc
    exact .ptr _ _ b (by rw [hs.at_ _ (inR_lt.1 (by simpa [Cell.under] using hu))]; exact h)
  | eptr id ep len sz idx off b cap h =>
    intro c hc hu; cases c <;> simp [rnC] at hc
    obtain ⟨rfl, rfl, rfl, rfl, rfl, rfl⟩ := hc
    exact .eptr _ _ _ _ _ _ b cap (by rw [hs.sl _ _ _ (inR_lt.1 (by simpa [Cell.under] using hu))]; exact h)
  | rptr ds b off h =>
    intro c hc hu; cases c <;> simp [rnC] at hc
    subst hc
    refine .rptr _ b off fun j d hj => ?_
    obtain ⟨h1, v, h2, h3⟩ := h j d hj
    exact ⟨(hs.S _ _).2 h1, v, h2, hs.dat' h3⟩
  | map id b h =>
    intro c hc hu; cases c <;> simp [rnC] at hc
    subst hc
    exact .map _ b (by rw [hs.at_ _ (inR_lt.1 (by simpa [Cell.under] using hu))]; exact h)
  | fn f fs cs xs ys hx hy h h' ih ih' =>
    intro c hc hu; cases c <;> simp [rnC] at hc
    obtain ⟨rfl, rfl, rfl⟩ := hc
    simp only [Cell.under, Bool.and_eq_true] at hu
    refine .fn f _ _ xs ys (by rw [rnCs_length] at hx; exact hx) (by rw [rnCs_length] at hy; exact hy) (fun i c hc => ?_) (fun i c hc => ?_)
    · exact ih i (rnC r c) (by rw [rnCs_get, hc]; rfl) rfl (under_of_mem hu.1 i c hc)
    · exact ih' i (rnC r c) (by rw [rnCs_get, hc]; rfl) rfl (under_of_mem hu.2 i c hc)

theorem Same.outs {r κ0 κ w} (hs : Same r κ0 κ) {cs : List Cell} {vs : List Value} (h : RCs κ0 w cs vs) (hu : underAll (inR r) cs = true) : RCs κ w (rnCs r cs) vs :=
  ⟨by rw [rnCs_length]; exact h.1, fun i c v hc hv => by
    rw [rnCs_get, Option.map_eq_some_iff] at hc
    obtain ⟨c0, h1, rfl⟩ := hc
    exact hs.out (h.2 i c0 v h1 hv) (under_of_mem hu i c0 h1)⟩
theorem Same.ins {r κ0 κ w} (hs : Same r κ0 κ) {cs : List Cell} {vs : List Value} (h : RCs κ w (rnCs r cs) vs) (hu : underAll (inR r) cs = true) : RCs κ0 w cs vs :=
  ⟨by rw [← rnCs_length r]; exact h.1, fun i c v hc hv => hs.in_ (h.2 i (rnC r c) v (by rw [rnCs_get, hc]; rfl) hv) rfl (under_of_mem hu i c hc)⟩
theorem Same.outF {r κ0 κ w} (hs : Same r κ0 κ) {x : FV} {v : Value} (h : RF κ0 w x v) (hu : x.under (inR r) = true) : RF κ w (rnF r x) v := by
  cases h with
  | one c v h => exact .one _ _ (hs.out h hu)
  | agg cs vs h => exact .agg _ _ (hs.outs h hu)
theorem Same.inF {r κ0 κ w} (hs : Same r κ0 κ) {x : FV} {v : Value} (h : RF κ w (rnF r x) v) (hu : x.under (inR r) = true) : RF κ0 w x v := by
  cases x with
  | one c => cases h with | one _ _ h => exact .one _ _ (hs.in_ h rfl hu)
  | agg cs => cases h with | agg _ _ h => exact .agg _ _ (hs.ins h hu)
theorem Same.outV {r κ0 κ w} (hs : Same r κ0 κ) {x : V} {v : Value} (h : RV κ0 w x v) (hu : x.under (inR r) = true) : RV κ w (rnV r x) v := by
  cases h with
  | one c v h => exact .one _ _ (hs.out h hu)
  | agg cs vs h => exact .agg _ _ (hs.outs h hu)
  | undef => exact .undef
  | tup xs vs hn h =>
    refine .tup _ _ (by rw [rnFs_length]; exact hn) fun i x v hx hv => ?_
    rw [rnFs_get, Option.map_eq_some_iff] at hx
    obtain ⟨x0, h1, rfl⟩ := hx
    simp only [V.under, List.all_eq_true] at hu
    exact hs.outF (h i x0 v h1 hv) (hu x0 (List.mem_of_getElem? h1))
theorem Same.inV {r κ0 κ w} (hs : Same r κ0 κ) {x : V} {v : Value} (h : RV κ w (rnV r x) v) (hu : x.under (inR r) = true) : RV κ0 w x v := by
  cases x with
  | one c => cases h with | one _ _ h => exact .one _ _ (hs.in_ h rfl hu)
  | agg cs => cases h with | agg _ _ h => exact .agg _ _ (hs.ins h hu)
  | undef => cases h; exact .undef
  | tup xs =>
    cases h with | tup _ vs hn h =>
    refine .tup _ _ (by rw [← rnFs_length r]; exact hn) fun i x v hx hv => ?_
    simp only [V.under, List.all_eq_true] at hu
    exact hs.inF (h i (rnF r x) v (by rw [rnFs_get, hx]; rfl) hv) (hu x (List.mem_of_getElem? hx))

theorem rnC_under {r : List Nat} {L M : Nat → Bool} (hL : ∀ i, M i = true → L (rn r i) = true) : ∀ {c : Cell}, c.under M = true → (rnC r c).under L = true
  | .d x, _ => rfl
  | .rptr cs, _ => rfl
  | .arr id ep len, h => hL _ h
  | .ptr id off, h => hL _ h
  | .eptr id ep len sz idx off, h => hL _ h
  | .map id, h => hL _ h
  | .fn f a b, h => by
    simp only [Cell.under, Bool.and_eq_true, rnC] at h ⊢
    exact ⟨go hL a h.1, go hL b h.2⟩
where go {r : List Nat} {L M : Nat → Bool} (hL : ∀ i, M i = true → L (rn r i) = true) : ∀ cs : List Cell, underAll M cs = true → underAll L (rnCs r cs) = true
  | [], _ => rfl
  | c :: cs, h => by
    simp only [underAll, Bool.and_eq_true, rnCs] at h ⊢
    exact ⟨rnC_under hL h.1, go hL cs h.2⟩
theorem rnCs_under {r : List Nat} {L M : Nat → Bool} (hL : ∀ i, M i = true → L (rn r i) = true) {cs : List Cell} (h : underAll M cs = true) : underAll L (rnCs r cs) = true := rnC_under.go hL cs h
theorem rnF_under {r : List Nat} {L M : Nat → Bool} (hL : ∀ i, M i = true → L (rn r i) = true) {x : FV} (h : x.under M = true) : (rnF r x).under L = true := by
  cases x with
  | one c => exact rnC_under hL h
  | agg cs => exact rnCs_under hL h
theorem rnV_under {r : List Nat} {L M : Nat → Bool} (hL : ∀ i, M i = true → L (rn r i) = true) {x : V} (h : x.under M = true) : (rnV r x).under L = true := by
  cases x with
  | one c => exact rnC_under hL h
  | agg cs => exact rnCs_under hL h
  | undef => rfl
  | tup xs =>
    simp only [V.under, rnV, List.all_eq_true] at h ⊢
    intro y hy
    obtain ⟨i, hi⟩ := List.mem_iff_getElem?.1 hy
    rw [rnFs_get, Option.map_eq_some_iff] at hi
    obtain ⟨x0, h1, rfl⟩ := hi
    exact rnF_under hL (h x0 (List.mem_of_getElem? h1))
theorem rnO_under {r : List Nat} {L M : Nat → Bool} (hL : ∀ i, M i = true → L (rn r i) = true) {x : Ob} (h : x.under M = true) : (rnO r x).under L = true := by
  cases x with
  | var cs => exact rnCs_under hL h
  | arr a b c d => rfl
  | dead => rfl
  | map es =>
    simp only [Ob.under, rnO, List.all_eq_true] at h ⊢
    intro y hy
    obtain ⟨i, hi⟩ := List.mem_iff_getElem?.1 hy
    rw [rnEs_get, Option.map_eq_some_iff] at hi
    obtain ⟨x0, h1, rfl⟩ := hi
    exact rnF_under hL (h x0 (List.mem_of_getElem? h1))

theorem Same.outO {r κ0 κ w} (hs : Same r κ0 κ) {i : Nat} (hi : i < r.length) {o : Ob} (h : RO κ0 w i o) (hu : o.under (inR r) = true) : RO κ w (rn r i) (rnO r o) := by
  cases o with
  | dead => trivial
  | var cs =>
    obtain ⟨b, c, T, h1, h2, h3, h4⟩ := h
    exact ⟨b, c, T, by rw [← hs.at_ i hi]; exact h1, h2, hs.outs h3 hu, fun o h => h4 o ((hs.S _ _).2 h)⟩
  | map es =>
    obtain ⟨b, ents, clock, h1, h2, h3, h4, h5⟩ := h
    refine ⟨b, ents, clock, by rw [← hs.at_ i hi]; exact h1, h2, by rw [rnEs_length]; exact h3, fun o h => h4 o ((hs.S _ _).2 h), fun j k x hj => ?_⟩
    rw [rnEs_get, Option.map_eq_some_iff] at hj
    obtain ⟨⟨k0, x0⟩, g1, g2⟩ := hj
    simp only [Prod.mk.injEq] at g2
    obtain ⟨rfl, rfl⟩ := g2
    obtain ⟨e, e1, e2, e3⟩ := h5 j k0 x0 g1
    simp only [Ob.under, List.all_eq_true] at hu
    exact ⟨e, e1, e2, hs.outF e3 (hu _ (List.mem_of_getElem? g1))⟩
  | arr ep m sz rows =>
    obtain ⟨⟨h1, h2⟩, h3⟩ := h
    refine ⟨⟨h1, fun ep' l v hv => h2 ep' l v (by rw [hs.sl _ _ _ hi]; exact hv)⟩, ?_⟩
    rcases h3 with ⟨h3, h4⟩ | ⟨b, cap, c, T, g1, g2, g3, g4, g5, g6, g7⟩
    · exact .inl ⟨by rw [← hs.sl _ _ _ hi]; exact h3, h4⟩
    · refine .inr ⟨b, cap, c, T, by rw [← hs.sl _ _ _ hi]; exact g1, g2, g3, g4, fun i j row d a1 a2 => ?_, fun hm o h => g6 hm o ((hs.S _ _).2 h), fun hm o => by rw [← hs.S]; exact g7 hm o⟩
      obtain ⟨v, b1, b2⟩ := g5 i j row d a1 a2
      exact ⟨v, b1, hs.dat b2⟩
theorem Same.inO {r κ0 κ w} (hs : Same r κ0 κ) {i : Nat} (hi : i < r.length) {o : Ob} (h : RO κ w (rn r i) (rnO r o)) (hu : o.under (inR r) = true) : RO κ0 w i o := by
  cases o with
  | dead => trivial
  | var cs =>
    obtain ⟨b, c, T, h1, h2, h3, h4⟩ := h
    exact ⟨b, c, T, by rw [hs.at_ i hi]; exact h1, h2, hs.ins h3 hu, fun o h => h4 o ((hs.S _ _).1 h)⟩
  | map es =>
    obtain ⟨b, ents, clock, h1, h2, h3, h4, h5⟩ := h
    refine ⟨b, ents, clock, by rw [hs.at_ i hi]; exact h1, h2, by rw [← rnEs_length r]; exact h3, fun o h => h4 o ((hs.S _ _).1 h), fun j k x hj => ?_⟩
    obtain ⟨e, e1, e2, e3⟩ := h5 j k (rnF r x) (by rw [rnEs_get, hj]; rfl)
    simp only [Ob.under, List.all_eq_true] at hu
    exact ⟨e, e1, e2, hs.inF e3 (hu _ (List.mem_of_getElem? hj))⟩
  | arr ep m sz rows =>
    obtain ⟨⟨h1, h2⟩, h3⟩ := h
    refine ⟨⟨h1, fun ep' l v hv => h2 ep' l v (by rw [← hs.sl _ _ _ hi]; exact hv)⟩, ?_⟩
    rcases h3 with ⟨h3, h4⟩ | ⟨b, cap, c, T, g1, g2, g3, g4, g5, g6, g7⟩
    · exact .inl ⟨by rw [hs.sl _ _ _ hi]; exact h3, h4⟩
    · refine .inr ⟨b, cap, c, T, by rw [hs.sl _ _ _ hi]; exact g1, g2, g3, g4, fun i j row d a1 a2 => ?_, fun hm o h => g6 hm o ((hs.S _ _).1 h), fun hm o => by rw [hs.S]; exact g7 hm o⟩
      obtain ⟨v, b1, b2⟩ := g5 i j row d a1 a2
      exact ⟨v, b1, hs.dat' b2⟩
theorem Same.block {r κ0 κ} (hs : Same r κ0 κ) {i : Nat} (hi : i < r.length) (o : Ob) : blockOf κ (rn r i) (rnO r o) = blockOf κ0 i o := by
  cases o <;> simp [blockOf, rnO, hs.at_ i hi, hs.sl _ _ _ hi]
end Go.Am
