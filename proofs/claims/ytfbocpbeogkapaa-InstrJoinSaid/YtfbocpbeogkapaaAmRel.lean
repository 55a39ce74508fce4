/- The abstract machine: how its values and objects stand to the values and the memory of the model. -/
import Derived.Test.YtfbocpbeogkapaaAmDefs
set_option linter.unusedVariables false
set_option linter.unusedSimpArgs false
namespace Go.Am

/-- what is known of memory beside the state: S: cells that nobody changes any more; at: the block of a variable or a map; sl: the slice that an array was -/
structure K where
  S : Nat → Nat → Prop
  at_ : Nat → Option Nat
  sl : Nat → Nat → Nat → Option Value

def cellAt (w : World) (b o : Nat) : Option Value := w.cell? ⟨b, o, none⟩

inductive RD (S : Nat → Nat → Prop) (w : World) : D → Value → Prop where
  | sc (v : Value) (h : plain v = true) : RD S w (.sc v) v
  | nil (a : Option Addr) (cap : Nat) : RD S w (.list []) (.slice a 0 cap)
  | list (b off cap sz : Nat) (rows : List (List D)) (vs : Nat → Nat → Value)
      (hcap : rows.length ≤ cap) (hrow : ∀ (i : Nat) (row : List D), rows[i]? = some row → row.length = sz)
      (hcell : ∀ (i j : Nat) (row : List D) (d : D), rows[i]? = some row → row[j]? = some d → S b (off + (i * sz + j)) ∧ cellAt w b (off + (i * sz + j)) = some (vs i j))
      (hrel : ∀ (i j : Nat) (row : List D) (d : D), rows[i]? = some row → row[j]? = some d → RD S w d (vs i j)) :
      RD S w (.list rows) (.slice (some ⟨b, off, none⟩) rows.length cap)
  | ifc1 (t : TypeId) (d : D) (v : Value) (h : RD S w d v) : RD S w (.ifc t false [d]) (.iface t v)
  | ifcA (t : TypeId) (ds : List D) (vs : Array Value) (hn : ds.length = vs.size)
      (h : ∀ (i : Nat) (d : D), ds[i]? = some d → RD S w d (vs.getD i undef)) : RD S w (.ifc t true ds) (.iface t (.agg vs))

inductive RC (κ : K) (w : World) : Cell → Value → Prop where
  | d (x : D) (v : Value) (h : RD κ.S w x v) : RC κ w (.d x) v
  | arr (id ep len : Nat) (a : Option Addr) (cap : Nat) (h : κ.sl id ep len = some (.slice a len cap)) : RC κ w (.arr id ep len) (.slice a len cap)
  | ptr (id off b : Nat) (h : κ.at_ id = some b) : RC κ w (.ptr id off) (.pointer (some ⟨b, off, none⟩))
  | eptr (id ep len sz idx off b cap : Nat) (h : κ.sl id ep len = some (.slice (some ⟨b, 0, none⟩) len cap)) :
      RC κ w (.eptr id ep len sz idx off) (.pointer (some ⟨b, idx * sz + off, none⟩))
  | rptr (ds : List D) (b off : Nat) (h : ∀ (j : Nat) (d : D), ds[j]? = some d → κ.S b (off + j) ∧ ∃ v, cellAt w b (off + j) = some v ∧ RD κ.S w d v) :
      RC κ w (.rptr ds) (.pointer (some ⟨b, off, none⟩))
  | map (id b : Nat) (h : κ.at_ id = some b) : RC κ w (.map id) (.map (some b))
  | fn (f : Fn) (fs cs : List Cell) (xs ys : Array Value) (hx : fs.length = xs.size) (hy : cs.length = ys.size)
      (h : ∀ (i : Nat) (c : Cell), fs[i]? = some c → RC κ w c (xs.getD i undef)) (h' : ∀ (i : Nat) (c : Cell), cs[i]? = some c → RC κ w c (ys.getD i undef)) :
      RC κ w (.fn f fs cs) (.func f xs ys)

/-- cells, one by one -/
def RCs (κ : K) (w : World) (cs : List Cell) (vs : List Value) : Prop :=
  cs.length = vs.length ∧ ∀ (i : Nat) (c : Cell) (v : Value), cs[i]? = some c → vs[i]? = some v → RC κ w c v
inductive RF (κ : K) (w : World) : FV → Value → Prop where
  | one (c : Cell) (v : Value) (h : RC κ w c v) : RF κ w (.one c) v
  | agg (cs : List Cell) (vs : Array Value) (h : RCs κ w cs vs.toList) : RF κ w (.agg cs) (.agg vs)
inductive RV (κ : K) (w : World) : V → Value → Prop where
  | one (c : Cell) (v : Value) (h : RC κ w c v) : RV κ w (.one c) v
  | agg (cs : List Cell) (vs : Array Value) (h : RCs κ w cs vs.toList) : RV κ w (.agg cs) (.agg vs)
  | tup (xs : List FV) (vs : Array Value) (hn : xs.length = vs.size) (h : ∀ (i : Nat) (x : FV) (v : Value), xs[i]? = some x → vs[i]? = some v → RF κ w x v) : RV κ w (.tup xs) (.tuple vs)
  | undef : RV κ w .undef Go.undef

/-- the block of an object -/
def blockOf (κ : K) (id : Nat) : Ob → Option Nat
  | .var _ | .map _ => κ.at_ id
  | .arr ep _ _ rows => match κ.sl id ep rows.length with
    | some (.slice (some a) _ _) => some a.block
    | _ => none
  | .dead => none

def RO (κ : K) (w : World) (id : Nat) : Ob → Prop
  | .var cells => ∃ b c T, κ.at_ id = some b ∧ w.heap[b]? = some (.cells c T (0, 0)) ∧ RCs κ w cells c.toList ∧ ∀ o, ¬ κ.S b o
  | .arr ep m sz rows => ((∀ r ∈ rows, r.length = sz) ∧ ∀ ep' l v, κ.sl id ep' l = some v → ep' < ep ∨ ep' = ep ∧ l ≤ rows.length) ∧
      ((κ.sl id ep rows.length = some nilSlice ∧ rows = []) ∨
       ∃ b cap c T, κ.sl id ep rows.length = some (.slice (some ⟨b, 0, none⟩) rows.length cap) ∧ w.heap[b]? = some (.cells c T (0, 0)) ∧
         rows.length ≤ cap ∧ cap * sz ≤ c.size ∧
         (∀ (i j : Nat) (row : List D) (d : D), rows[i]? = some row → row[j]? = some d → ∃ v, c[i * sz + j]? = some v ∧ RD κ.S w d v) ∧
         (m = true → ∀ o, ¬ κ.S b o) ∧ (m = false → ∀ o, κ.S b o ↔ o < rows.length * sz))
  | .map es => ∃ b ents clock, κ.at_ id = some b ∧ w.heap[b]? = some (.map ents clock) ∧ ents.size = es.length ∧ (∀ o, ¬ κ.S b o) ∧
      ∀ (i : Nat) (k : Value) (x : FV), es[i]? = some (k, x) → ∃ e, ents[i]? = some e ∧ e.key = k ∧ RF κ w x e.val
  | .dead => True

structure RS (κ : K) (w : World) (σ : St) : Prop where
  obj : ∀ (id : Nat) (o : Ob), σ[id]? = some o → RO κ w id o
  inj : ∀ (id id' : Nat) (o o' : Ob) (b : Nat), σ[id]? = some o → σ[id']? = some o' → blockOf κ id o = some b → blockOf κ id' o' = some b → id = id'
  inner : ∀ (id : Nat) (o : Ob), σ[id]? = some o → o.under (alive σ) = true
  inside : ∀ b o, κ.S b o → b < w.heap.size

def own (κ : K) (σ : St) (b : Nat) : Prop := ∃ id o, σ[id]? = some o ∧ blockOf κ id o = some b

/-- how memory may have gone on -/
structure Evo (κ : K) (w : World) (σ : St) (κ' : K) (w' : World) (σ' : St) : Prop where
  S : ∀ b o, κ.S b o → κ'.S b o
  keep : ∀ b o, κ.S b o → cellAt w' b o = cellAt w b o
  at_ : ∀ id, alive σ id = true → κ'.at_ id = κ.at_ id
  sl : ∀ id ep len v, alive σ id = true → κ.sl id ep len = some v → κ'.sl id ep len = some v
  live : ∀ id, alive σ id = true → alive σ' id = true
  fresh : ∀ b o, κ'.S b o → κ.S b o ∨ own κ σ b ∨ w.heap.size ≤ b
  frame : ∀ b, b < w.heap.size → ¬ own κ σ b → w'.heap[b]? = w.heap[b]?
  owned : ∀ b, own κ' σ' b → own κ σ b ∨ w.heap.size ≤ b
  size : w.heap.size ≤ w'.heap.size
  os : w'.os = w.os
  tape : w'.tape = w.tape
  output : w'.output = w.output
  len : σ.length ≤ σ'.length

/-! what stays -/

theorem cell_of_heap {w w' : World} {b : Nat} (h : w'.heap[b]? = w.heap[b]?) (o : Nat) : cellAt w' b o = cellAt w b o := by
  simp only [cellAt, World.cell?, h]

theorem RD.mono {S S' : Nat → Nat → Prop} {w w' : World} (hS : ∀ b o, S b o → S' b o) (hk : ∀ b o, S b o → cellAt w' b o = cellAt w b o) {x : D} {v : Value}
    (h : RD S w x v) : RD S' w' x v := by
  induction h with
  | sc v h => exact .sc v h
  | nil a cap => exact .nil a cap
  | list b off cap sz rows vs hcap hrow hcell _ ih =>
    refine .list b off cap sz rows vs hcap hrow (fun i j row d h1 h2 => ?_) ih
    obtain ⟨h3, h4⟩ := hcell i j row d h1 h2
    exact ⟨hS _ _ h3, by rw [hk _ _ h3, h4]⟩
  | ifc1 t d v _ ih => exact .ifc1 t d v ih
  | ifcA t ds vs hn _ ih => exact .ifcA t ds vs hn ih

/-- the facts by which a value's meaning stays -/
structure Stays (κ : K) (w : World) (κ' : K) (w' : World) (L : Nat → Bool) : Prop where
  S : ∀ b o, κ.S b o → κ'.S b o
  keep : ∀ b o, κ.S b o → cellAt w' b o = cellAt w b o
  at_ : ∀ id, L id = true → κ'.at_ id = κ.at_ id
  sl : ∀ id ep len v, L id = true → κ.sl id ep len = some v → κ'.sl id ep len = some v

theorem Evo.stays {κ w σ κ' w' σ'} (h : Evo κ w σ κ' w' σ') : Stays κ w κ' w' (alive σ) := ⟨h.S, h.keep, h.at_, h.sl⟩

theorem under_of_mem {L : Nat → Bool} : ∀ {cs : List Cell}, underAll L cs = true → ∀ (i : Nat) (c : Cell), cs[i]? = some c → c.under L = true
  | [], _, i, c, h => by simp at h
  | x :: r, hb, i, c, h => by
    simp only [underAll, Bool.and_eq_true] at hb
    cases i with
    | zero => simp at h; exact h ▸ hb.1
    | succ i => exact under_of_mem hb.2 i c (by simpa using h)

theorem underAll_of {L : Nat → Bool} : ∀ {cs : List Cell}, (∀ (i : Nat) (c : Cell), cs[i]? = some c → c.under L = true) → underAll L cs = true
  | [], _ => rfl
  | x :: r, h => by
    simp only [underAll, Bool.and_eq_true]
    exact ⟨h 0 x rfl, underAll_of fun i c hc => h (i + 1) c (by simpa using hc)⟩

theorem RC.stays {κ κ' : K} {w w' : World} {L : Nat → Bool} (hs : Stays κ w κ' w' L) {c : Cell} {v : Value} (h : RC κ w c v) (hb : c.under L = true) : RC κ' w' c v := by
  induction h with
  | d x v h => exact .d x v (h.mono hs.S hs.keep)
  | arr id ep len a cap h => exact .arr id ep len a cap (hs.sl _ _ _ _ (by simpa [Cell.under] using hb) h)
  | ptr id off b h => exact .ptr id off b (by rw [hs.at_ id (by simpa [Cell.under] using hb), h])
  | eptr id ep len sz idx off b cap h => exact .eptr id ep len sz idx off b cap (hs.sl _ _ _ _ (by simpa [Cell.under] using hb) h)
  | rptr ds b off h =>
    refine .rptr ds b off fun j d hj => ?_
    obtain ⟨h1, v, h2, h3⟩ := h j d hj
    exact ⟨hs.S _ _ h1, v, by rw [hs.keep _ _ h1, h2], h3.mono hs.S hs.keep⟩
  | map id b h => exact .map id b (by rw [hs.at_ id (by simpa [Cell.under] using hb), h])
  | fn f fs cs xs ys hx hy h h' ih ih' =>
    simp only [Cell.under, Bool.and_eq_true] at hb
    exact .fn f fs cs xs ys hx hy (fun i c hc => ih i c hc (under_of_mem hb.1 i c hc)) (fun i c hc => ih' i c hc (under_of_mem hb.2 i c hc))

theorem RCs.stays {κ κ' : K} {w w' : World} {L : Nat → Bool} (hs : Stays κ w κ' w' L) {cs : List Cell} {vs : List Value} (h : RCs κ w cs vs) (hb : underAll L cs = true) : RCs κ' w' cs vs :=
  ⟨h.1, fun i c v hc hv => (h.2 i c v hc hv).stays hs (under_of_mem hb i c hc)⟩

theorem RF.stays {κ κ' : K} {w w' : World} {L : Nat → Bool} (hs : Stays κ w κ' w' L) {x : FV} {v : Value} (h : RF κ w x v) (hb : x.under L = true) : RF κ' w' x v := by
  cases h with
  | one c v h => exact .one c v (h.stays hs hb)
  | agg cs vs h => exact .agg cs vs (h.stays hs hb)

theorem RV.stays {κ κ' : K} {w w' : World} {L : Nat → Bool} (hs : Stays κ w κ' w' L) {x : V} {v : Value} (h : RV κ w x v) (hb : x.under L = true) : RV κ' w' x v := by
  cases h with
  | one c v h => exact .one c v (h.stays hs hb)
  | agg cs vs h => exact .agg cs vs (h.stays hs hb)
  | tup xs vs hn h =>
    refine .tup xs vs hn fun i x v hx hv => (h i x v hx hv).stays hs ?_
    simp only [V.under, List.all_eq_true] at hb
    exact hb x (List.mem_of_getElem? hx)
  | undef => exact .undef

theorem Evo.refl {κ : K} {w : World} {σ : St} : Evo κ w σ κ w σ :=
  ⟨fun _ _ h => h, fun _ _ _ => rfl, fun _ _ => rfl, fun _ _ _ _ _ h => h, fun _ h => h, fun _ _ h => .inl h, fun _ _ _ => rfl, fun _ h => .inl h, Nat.le_refl _, rfl, rfl, rfl, Nat.le_refl _⟩

theorem Evo.trans {κ w σ κ1 w1 σ1 κ2 w2 σ2} (h : Evo κ w σ κ1 w1 σ1) (k : Evo κ1 w1 σ1 κ2 w2 σ2) : Evo κ w σ κ2 w2 σ2 where
  S b o hs := k.S b o (h.S b o hs)
  keep b o hs := by rw [k.keep b o (h.S b o hs), h.keep b o hs]
  at_ id hid := by rw [k.at_ id (h.live id hid), h.at_ id hid]
  sl id ep len v hid hv := k.sl id ep len v (h.live id hid) (h.sl id ep len v hid hv)
  live id hid := k.live id (h.live id hid)
  fresh b o hs := by
    rcases k.fresh b o hs with h1 | h1 | h1
    · exact h.fresh b o h1
    · rcases h.owned b h1 with h2 | h2
      · exact .inr (.inl h2)
      · exact .inr (.inr h2)
    · exact .inr (.inr (Nat.le_trans h.size h1))
  frame b hb ho := by
    rw [k.frame b (Nat.lt_of_lt_of_le hb h.size) (fun h1 => (h.owned b h1).elim ho (fun h2 => absurd hb (Nat.not_lt.2 h2))), h.frame b hb ho]
  owned b hb := by
    rcases k.owned b hb with h1 | h1
    · exact h.owned b h1
    · exact .inr (Nat.le_trans h.size h1)
  size := Nat.le_trans h.size k.size
  os := by rw [k.os, h.os]
  tape := by rw [k.tape, h.tape]
  output := by rw [k.output, h.output]
  len := Nat.le_trans h.len k.len

end Go.Am
