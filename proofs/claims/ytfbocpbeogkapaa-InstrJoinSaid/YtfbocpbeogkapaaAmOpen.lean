/- The abstract machine: a law's arguments, read as data. -/
import Derived.Test.YtfbocpbeogkapaaAmLoop
import GoSem.ClaimJoined
set_option linter.unusedVariables false
set_option linter.unusedSimpArgs false
namespace Go.Am

def RDs (S : Nat → Nat → Prop) (w : World) (xs : List D) (cs : List Value) : Prop :=
  xs.length = cs.length ∧ ∀ (i : Nat) (x : D) (v : Value), xs[i]? = some x → cs[i]? = some v → RD S w x v
theorem RDs.nil {S w} : RDs S w [] [] := ⟨rfl, fun i x v h => by simp at h⟩
theorem RDs.append {S w xs ys cs ds} (h : RDs S w xs cs) (k : RDs S w ys ds) : RDs S w (xs ++ ys) (cs ++ ds) :=
  ⟨by simp [h.1, k.1], fun i x v h1 h2 => by
    rw [List.getElem?_append] at h1 h2
    rw [← h.1] at h2
    split at h1
    · rename_i hi; rw [if_pos hi] at h2; exact h.2 i x v h1 h2
    · rename_i hi; rw [if_neg hi] at h2; exact k.2 _ x v h1 h2⟩
theorem RDs.single {S w x v} (h : RD S w x v) : RDs S w [x] [v] := ⟨rfl, fun i y u h1 h2 => by
  cases i with
  | zero => simp at h1 h2; subst h1; subst h2; exact h
  | succ i => simp at h1⟩

/-- the cells that are there -/
def S0 (w : World) (b o : Nat) : Prop := ∃ v, cellAt w b o = some v

/-- data of a type -/
inductive Typed (P : Program) : TypeId → List D → Prop
  | bool (t : TypeId) (b : Bool) (h : P.underlying t = some .bool) : Typed P t [.sc (.bool b)]
  | int (t : TypeId) (k : IntKind) (n : Int) (h : P.underlying t = some (.int k)) (hw : (Lit.int k n).wf = true) : Typed P t [.sc (.int k n)]
  | str (t : TypeId) (s : ByteArray) (h : P.underlying t = some .string) (hs : s.size ≤ reachBytes) : Typed P t [.sc (.string s)]
  | slice (t e : TypeId) (rows : List (List D)) (h : P.underlying t = some (.slice e)) (hr : ∀ row ∈ rows, Typed P e row) (hs : rows.length * P.bytesOf e ≤ reachBytes) : Typed P t [.list rows]
  | struct (t : TypeId) (fs : Array Field) (xss : List (List D)) (h : P.underlying t = some (.struct fs)) (hn : xss.length = fs.size)
      (hx : ∀ (i : Nat) (f : Field) (xs : List D), fs.toList[i]? = some f → xss[i]? = some xs → Typed P f.type xs) : Typed P t xss.flatten
  | array (t : TypeId) (n : Nat) (e : TypeId) (xss : List (List D)) (h : P.underlying t = some (.array n e)) (hn : xss.length = n) (hx : ∀ xs ∈ xss, Typed P e xs) : Typed P t xss.flatten

def consec (P : Program) : List Field → Nat → Option Nat
  | [], k => some k
  | f :: r, k => bif Nat.beq f.offset k then consec P r (k + P.cellsOf f.type) else none
/-- kinds that are read, laid one behind the other -/
def readOk (P : Program) : Nat → TypeId → Bool
  | 0, _ => false
  | n + 1, t => match P.underlying t with
    | some .bool | some (.int _) | some .string => true
    | some (.slice e) => Nat.blt 0 (P.cellsOf e) && readOk P n e
    | some (.struct fs) => (match consec P fs.toList 0 with
      | some k => Nat.beq k (P.cellsOf t)
      | none => false) && fs.toList.all fun f => readOk P n f.type
    | some (.array k e) => Nat.beq (k * P.cellsOf e) (P.cellsOf t) && readOk P n e
    | _ => false

theorem mapM_spec {α β : Type} {f : α → Option β} : ∀ {l : List α} {ys : List β}, l.mapM f = some ys → ys.length = l.length ∧ ∀ (i : Nat) (x : α), l[i]? = some x → ∃ y, f x = some y ∧ ys[i]? = some y
  | [], ys, h => by
    simp at h; subst h; exact ⟨rfl, fun i x h => by simp at h⟩
  | a :: l, ys, h => by
    rw [List.mapM_cons] at h
    cases ha : f a with
    | none => simp [ha] at h
    | some y =>
    cases hl : l.mapM f with
    | none => simp [ha, hl] at h
    | some zs =>
    simp [ha, hl] at h; subst h
    obtain ⟨h1, h2⟩ := mapM_spec hl
    refine ⟨by simp [h1], fun i x hi => ?_⟩
    cases i with
    | zero => simp at hi; subst hi; exact ⟨y, ha, rfl⟩
    | succ i => simpa using h2 i x (by simpa using hi)

theorem flat_rel {S w} : ∀ {xss : List (List D)} {css : List (List Value)}, xss.length = css.length → (∀ (i : Nat) xs cs, xss[i]? = some xs → css[i]? = some cs → RDs S w xs cs) → RDs S w xss.flatten css.flatten
  | [], [], _, _ => .nil
  | [], _ :: _, h, _ => by simp at h
  | _ :: _, [], h, _ => by simp at h
  | x :: xs, c :: cs, h, k => by
    simp only [List.flatten_cons]
    exact (k 0 x c rfl rfl).append (flat_rel (by simpa using h) fun i a b h1 h2 => k (i + 1) a b (by simpa using h1) (by simpa using h2))

/-- fields one behind the other are the whole -/
theorem consec_flat {P : Program} {cs : List Value} : ∀ {fs : List Field} {k m : Nat}, consec P fs k = some m → k ≤ cs.length → m = cs.length →
    (fs.map fun f => (cs.drop f.offset).take (P.cellsOf f.type)).flatten = cs.drop k
  | [], k, m, h, _, hm => by simp only [consec, Option.some.injEq] at h; subst h; subst hm; simp
  | f :: r, k, m, h, hk, hm => by
    simp only [consec] at h
    cases hb : Nat.beq f.offset k with
    | false => simp [hb] at h
    | true =>
    rw [hb] at h; simp only [cond_true] at h
    have hoff := Nat.eq_of_beq_eq_true hb
    have hmono : ∀ {fs : List Field} {k m : Nat}, consec P fs k = some m → k ≤ m := by
      intro fs
      induction fs with
      | nil => intro k m h; simp only [consec, Option.some.injEq] at h; omega
      | cons g r ih =>
        intro k m h
        simp only [consec] at h
        cases hb : Nat.beq g.offset k with
        | false => simp [hb] at h
        | true => rw [hb] at h; simp only [cond_true] at h; have := ih h; omega
    have h1 := hmono h
    simp only [List.map_cons, List.flatten_cons]
    rw [consec_flat h (by omega) hm, hoff]
    rw [← List.drop_drop, List.take_append_drop]

theorem array_flat {cs : List Value} {m : Nat} : ∀ (n k : Nat), k * m ≤ cs.length → (k + n) * m = cs.length →
    ((List.range' k n).map fun i => (cs.drop (i * m)).take m).flatten = cs.drop (k * m)
  | 0, k, _, h => by
    have : cs.length ≤ k * m := by simp at h; omega
    simp [List.drop_eq_nil_of_le this]
  | n + 1, k, hk, h => by
    rw [List.range'_succ, List.map_cons, List.flatten_cons]
    have e : (k + 1) * m = k * m + m := by rw [Nat.add_mul]; simp
    have e2 : (k + (n + 1)) * m = (k + 1 + n) * m := by congr 1; omega
    have e3 : (k + 1 + n) * m = k * m + m + n * m := by rw [Nat.add_mul, e]
    rw [array_flat n (k + 1) (by omega) (by omega), e, ← List.drop_drop, List.take_append_drop]

theorem cells_spec {w : World} {base : Nat} {a : Addr} {n : Nat} {cs : List Value} (h : w.cells? base a n = some cs) : cs.length = n ∧ ∀ i, i < n → ∃ v, cs[i]? = some v ∧ w.cell? (a.add i) = some v := by
  unfold World.cells? at h
  split at h
  · obtain ⟨h1, h2⟩ := mapM_spec h
    refine ⟨by simpa using h1, fun i hi => ?_⟩
    obtain ⟨y, h3, h4⟩ := h2 i i (by rw [List.getElem?_range hi])
    exact ⟨y, h4, h3⟩
  · simp at h

theorem add_spec {a : Addr} (h : a.spot = none) (n : Nat) : a.add n = ⟨a.block, a.off + n, none⟩ := by
  unfold Addr.add
  split
  · rename_i h0; subst h0; cases a; simp at h; subst h; rfl
  · rfl

theorem cell_spot {w : World} {a : Addr} {v : Value} (h : w.cell? a = some v) : a.spot = none := by
  unfold World.cell? at h
  split at h
  · split at h
    · simp at h
    · rename_i hs; cases hsp : a.spot with
      | none => rfl
      | some s => rw [hsp] at hs; simp at hs
  · simp at h
end Go.Am
