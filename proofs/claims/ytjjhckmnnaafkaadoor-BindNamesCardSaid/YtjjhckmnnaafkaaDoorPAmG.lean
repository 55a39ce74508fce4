/- A part of a proof: functions of the program walked over the abstract machine, and what they compute. -/
import Derived.Test.YtjjhckmnnaafkaaDoorPAmF
import GoSem.ClaimJoined
import Derived.Below
import Derived.ChangeShapes
import Derived.WideShapes
import Derived.ChangeOld
import Derived.Carry
set_option linter.unusedVariables false
set_option linter.unusedSimpArgs false
/- The abstract machine: a law's arguments, read as data. -/
namespace Go.Am
def RDs (S : Nat → Nat → Prop) (w : World) (xs : List D) (cs : List Value) : Prop :=
  xs.length = cs.length ∧ ∀ (i : Nat) (x : D) (v : Value), xs[i]? = some x → cs[i]? = some v → RD S w x v
theorem RDs.nil {S w} : RDs S w [] [] := ⟨rfl, fun i x v h => by simp at h⟩
theorem RDs.append {S w xs ys cs ds} (h : RDs S w xs cs) (k : RDs S w ys ds) : RDs S w (xs ++ ys) (cs ++ ds) :=
  ⟨by simp [h.1, k.1], fun i x v h1 h2 => by
    rw [List.getElem?_append] at h1 h2
    rw [← h.1] at h2
    split at h1
    · rename_i hi; rw [if_pos hi] at h2; exact h.2 i x v h1 h2
    · rename_i hi; rw [if_neg hi] at h2; exact k.2 _ x v h1 h2⟩
theorem RDs.single {S w x v} (h : RD S w x v) : RDs S w [x] [v] := ⟨rfl, fun i y u h1 h2 => by
  cases i with
  | zero => simp at h1 h2; subst h1; subst h2; exact h
  | succ i => simp at h1⟩
/-- the cells that are there -/
def S0 (w : World) (b o : Nat) : Prop := ∃ v, cellAt w b o = some v
/-- data of a type -/
inductive Typed (P : Program) : TypeId → List D → Prop
  | bool (t : TypeId) (b : Bool) (h : P.underlying t = some .bool) : Typed P t [.sc (.bool b)]
  | int (t : TypeId) (k : IntKind) (n : Int) (h : P.underlying t = some (.int k)) (hw : (Lit.int k n).wf = true) : Typed P t [.sc (.int k n)]
  | str (t : TypeId) (s : ByteArray) (h : P.underlying t = some .string) (hs : s.size ≤ reachBytes) : Typed P t [.sc (.string s)]
  | flt (t : TypeId) (k : FloatKind) (n : Nat) (h : P.underlying t = some (.float k)) : Typed P t [.sc (.float k n)]
  | slice (t e : TypeId) (rows : List (List D)) (h : P.underlying t = some (.slice e)) (hr : ∀ row ∈ rows, Typed P e row) (hs : rows.length * P.bytesOf e ≤ reachBytes) : Typed P t [.list rows]
  | struct (t : TypeId) (fs : Array Field) (xss : List (List D)) (h : P.underlying t = some (.struct fs)) (hn : xss.length = fs.size)
      (hx : ∀ (i : Nat) (f : Field) (xs : List D), fs.toList[i]? = some f → xss[i]? = some xs → Typed P f.type xs) : Typed P t xss.flatten
  | array (t : TypeId) (n : Nat) (e : TypeId) (xss : List (List D)) (h : P.underlying t = some (.array n e)) (hn : xss.length = n) (hx : ∀ xs ∈ xss, Typed P e xs) : Typed P t xss.flatten
def consec (P : Program) : List Field → Nat → Option Nat
  | [], k => some k
  | f :: r, k => bif Nat.beq f.offset k then consec P r (k + P.cellsOf f.type) else none
/-- kinds that are read, laid one behind the other -/
def readStep (P : Program) (ok : TypeId → Bool) (t : TypeId) : Bool :=
  match P.underlying t with
    | some .bool | some (.int _) | some .string | some (.float _) => true
    | some (.slice e) => Nat.blt 0 (P.cellsOf e) && ok e
    | some (.struct fs) => (match consec P fs.toList 0 with
      | some k => Nat.beq k (P.cellsOf t)
      | none => false) && fs.toList.all fun f => ok f.type
    | some (.array k e) => Nat.beq (k * P.cellsOf e) (P.cellsOf t) && ok e
    | _ => false
/-- the kinds within a kind -/
def subs (P : Program) (t : TypeId) : List TypeId :=
  match P.underlying t with
    | some (.slice e) => [e]
    | some (.struct fs) => fs.toList.map fun f => f.type
    | some (.array _ e) => [e]
    | _ => []
def grow (P : Program) : Nat → List TypeId → List TypeId → List TypeId
  | 0, _, seen => seen
  | _ + 1, [], seen => seen
  | n + 1, t :: todo, seen => bif seen.elem t then grow P n todo seen else grow P n (subs P t ++ todo) (t :: seen)
def readAll (P : Program) (S : List TypeId) : Bool := S.all (readStep P fun x => S.elem x)
def readIn (P : Program) (S : List TypeId) (t : TypeId) : Bool := readAll P S && S.elem t
/-- k: how many kinds, and kinds within kinds, at most -/
def readOk (P : Program) (k : Nat) (t : TypeId) : Bool := readIn P (grow P k [t] []) t
theorem readOk_out {P : Program} {k : Nat} {t : TypeId} (h : readOk P k t = true) : ∃ S : List TypeId, readAll P S = true ∧ S.elem t = true := by
  unfold readOk readIn at h
  rw [Bool.and_eq_true] at h
  exact ⟨_, h⟩
theorem readAll_get {P : Program} {S : List TypeId} (h : readAll P S = true) {t : TypeId} (ht : S.elem t = true) : readStep P (fun x => S.elem x) t = true :=
  List.all_eq_true.1 h t (by simpa using ht)
theorem mapM_spec {α β : Type} {f : α → Option β} : ∀ {l : List α} {ys : List β}, l.mapM f = some ys → ys.length = l.length ∧ ∀ (i : Nat) (x : α), l[i]? = some x → ∃ y, f x = some y ∧ ys[i]? = some y
  | [], ys, h => by
    simp at h; subst h; exact ⟨rfl, fun i x h => by simp at h⟩
  | a :: l, ys, h => by
    rw [List.mapM_cons] at h
    cases ha : f a with
    | none => simp [ha] at h
    | some y =>
    cases hl : l.mapM f with
    | none => simp [ha, hl] at h
    | some zs =>
    simp [ha, hl] at h; subst h
    obtain ⟨h1, h2⟩ := mapM_spec hl
    refine ⟨by simp [h1], fun i x hi => ?_⟩
    cases i with
    | zero => simp at hi; subst hi; exact ⟨y, ha, rfl⟩
    | succ i => simpa using h2 i x (by simpa using hi)
theorem flat_rel {S w} : ∀ {xss : List (List D)} {css : List (List Value)}, xss.length = css.length → (∀ (i : Nat) xs cs, xss[i]? = some xs → css[i]? = some cs → RDs S w xs cs) → RDs S w xss.flatten css.flatten
  | [], [], _, _ => .nil
  | [], _ :: _, h, _ => by simp at h
  | _ :: _, [], h, _ => by simp at h
  | x :: xs, c :: cs, h, k => by
    simp only [List.flatten_cons]
    exact (k 0 x c rfl rfl).append (flat_rel (by simpa using h) fun i a b h1 h2 => k (i + 1) a b (by simpa using h1) (by simpa using h2))
/-- fields one behind the other are the whole -/
theorem consec_flat {P : Program} {cs : List Value} : ∀ {fs : List Field} {k m : Nat}, consec P fs k = some m → k ≤ cs.length → m = cs.length →
    (fs.map fun f => (cs.drop f.offset).take (P.cellsOf f.type)).flatten = cs.drop k
  | [], k, m, h, _, hm => by simp only [consec, Option.some.injEq] at h; subst h; subst hm; simp
  | f :: r, k, m, h, hk, hm => by
    simp only [consec] at h
    cases hb : Nat.beq f.offset k with
    | false => simp [hb] at h
    | true =>
    rw [hb] at h; simp only [cond_true] at h
    have hoff := Nat.eq_of_beq_eq_true hb
    have hmono : ∀ {fs : List Field} {k m : Nat}, consec P fs k = some m → k ≤ m := by
      intro fs
      induction fs with
      | nil => intro k m h; simp only [consec, Option.some.injEq] at h; omega
      | cons g r ih =>
        intro k m h
        simp only [consec] at h
        cases hb : Nat.beq g.offset k with
        | false => simp [hb] at h
        | true => rw [hb] at h; simp only [cond_true] at h; have := ih h; omega
    have h1 := hmono h
    simp only [List.map_cons, List.flatten_cons]
    rw [consec_flat h (by omega) hm, hoff]
    rw [← List.drop_drop, List.take_append_drop]
theorem array_flat {cs : List Value} {m : Nat} : ∀ (n k : Nat), k * m ≤ cs.length → (k + n) * m = cs.length →
    ((List.range' k n).map fun i => (cs.drop (i * m)).take m).flatten = cs.drop (k * m)
  | 0, k, _, h => by
    have : cs.length ≤ k * m := by simp at h; omega
    simp [List.drop_eq_nil_of_le this]
  | n + 1, k, hk, h => by
    rw [List.range'_succ, List.map_cons, List.flatten_cons]
    have e : (k + 1) * m = k * m + m := by rw [Nat.add_mul]; simp
    have e2 : (k + (n + 1)) * m = (k + 1 + n) * m := by congr 1; omega
    have e3 : (k + 1 + n) * m = k * m + m + n * m := by rw [Nat.add_mul, e]
    rw [array_flat n (k + 1) (by omega) (by omega), e, ← List.drop_drop, List.take_append_drop]
theorem cells_spec {w : World} {base : Nat} {a : Addr} {n : Nat} {cs : List Value} (h : w.cells? base a n = some cs) : cs.length = n ∧ ∀ i, i < n → ∃ v, cs[i]? = some v ∧ w.cell? (a.add i) = some v := by
  unfold World.cells? at h
  split at h
  · obtain ⟨h1, h2⟩ := mapM_spec h
    refine ⟨by simpa using h1, fun i hi => ?_⟩
    obtain ⟨y, h3, h4⟩ := h2 i i (by rw [List.getElem?_range hi])
    exact ⟨y, h4, h3⟩
  · simp at h
theorem add_spec {a : Addr} (h : a.spot = none) (n : Nat) : a.add n = ⟨a.block, a.off + n, none⟩ := by
  unfold Addr.add
  split
  · rename_i h0; subst h0; cases a; simp at h; subst h; rfl
  · rfl
theorem cell_spot {w : World} {a : Addr} {v : Value} (h : w.cell? a = some v) : a.spot = none := by
  unfold World.cell? at h
  split at h
  · split at h
    · simp at h
    · rename_i hs; cases hsp : a.spot with
      | none => rfl
      | some s => rw [hsp] at hs; simp at hs
  · simp at h
end Go.Am
/- The abstract machine: what is handed to a law reads as data. -/
namespace Go.Am
theorem all_append {l m : List Nat} {p : Nat → Bool} (h : (l ++ m).all p = true) : l.all p = true ∧ m.all p = true := by
  simpa [List.all_append] using h
theorem weightsAll_mem {H : Type} {P : Program} {e : TypeId} : ∀ {l : List (DataW H)}, (DataW.weightsAll P e l).all (· ≤ reachBytes) = true → ∀ d ∈ l, (d.weights P e).all (· ≤ reachBytes) = true
  | [], _, d, h => by simp at h
  | x :: l, h, d, hd => by
    simp only [DataW.weightsAll] at h
    obtain ⟨h1, h2⟩ := all_append h
    rcases List.mem_cons.1 hd with rfl | hd
    · exact h1
    · exact weightsAll_mem h2 d hd
theorem weightsEach_get {H : Type} {P : Program} : ∀ {ts : List TypeId} {l : List (DataW H)}, (DataW.weightsEach P ts l).all (· ≤ reachBytes) = true → ∀ (i : Nat) t d, ts[i]? = some t → l[i]? = some d → (d.weights P t).all (· ≤ reachBytes) = true
  | [], _, _, i, t, d, h, _ => by simp at h
  | _ :: _, [], _, i, t, d, _, h => by simp at h
  | t :: ts, x :: l, h, i, t', d, h1, h2 => by
    simp only [DataW.weightsEach] at h
    obtain ⟨h3, h4⟩ := all_append h
    cases i with
    | zero => simp at h1 h2; subst h1; subst h2; exact h3
    | succ i => exact weightsEach_get h4 i t' d (by simpa using h1) (by simpa using h2)
theorem exists_list {α : Type} {p : Nat → α → Prop} : ∀ (n : Nat), (∀ i, i < n → ∃ x, p i x) → ∃ l : List α, l.length = n ∧ ∀ i x, l[i]? = some x → p i x
  | 0, _ => ⟨[], rfl, fun i x h => by simp at h⟩
  | n + 1, h => by
    obtain ⟨l, h1, h2⟩ := exists_list n fun i hi => h i (by omega)
    obtain ⟨x, hx⟩ := h n (by omega)
    refine ⟨l ++ [x], by simp [h1], fun i y hi => ?_⟩
    rw [List.getElem?_append] at hi
    split at hi
    · exact h2 i y hi
    · rename_i hlt
      cases hk : i - l.length with
      | zero =>
        rw [hk] at hi; simp at hi; subst hi
        have : i = n := by omega
        subst this; exact hx
      | succ k => rw [hk] at hi; simp at hi
theorem open_sound {H : Type} {enc : TypeId × Value → H} {P : Program} {w : World} {spare : Nat → Bool} {held : Bool} {S : List TypeId} (hS : readAll P S = true) : ∀ (fuel : Nat) (t : TypeId) (cs : List Value) (d : DataW H) (ps : List MemPlace),
    S.elem t = true → DataW.trod enc P w 0 spare held fuel t cs = some (d, ps) → (d.weights P t).all (· ≤ reachBytes) = true → ∃ xs, Typed P t xs ∧ RDs (S0 w) w xs cs
  | 0, t, cs, d, ps, _, h, _ => by simp [DataW.trod] at h
  | fuel + 1, t, cs, d, ps, hok, h, hw => by
    have ih := open_sound (enc := enc) (P := P) (w := w) (spare := spare) (held := held) hS fuel
    replace hok := readAll_get hS hok
    unfold readStep at hok
    split at hok
    case h_1 hu =>
      unfold DataW.trod at h; simp only [hu] at h
      split at h
      all_goals first
        | (exfalso; simp_all; done)
        | skip
      all_goals
        rename_i b heq
        exact ⟨[.sc (.bool b)], .bool t b hu, .single (.sc _ rfl)⟩
    case h_2 kk hu =>
      unfold DataW.trod at h; simp only [hu] at h
      split at h
      all_goals first
        | (exfalso; simp_all; done)
        | skip
      all_goals
        rename_i k2 k3 n heq
        injection heq with heq; injection heq with heq; subst heq
        split at h
        · rename_i hc
          obtain ⟨rfl, hwf⟩ := hc
          exact ⟨[.sc (.int _ n)], .int t _ n hu hwf, .single (.sc _ rfl)⟩
        · simp at h
    case h_3 hu =>
      unfold DataW.trod at h; simp only [hu] at h
      split at h
      all_goals first
        | (exfalso; simp_all; done)
        | skip
      all_goals
        rename_i s heq
        split at h
        · simp only [Option.some.injEq, Prod.mk.injEq] at h
          obtain ⟨rfl, rfl⟩ := h
          simp only [DataW.weights, List.all_cons, List.all_nil, Bool.and_true, decide_eq_true_eq] at hw
          exact ⟨[.sc (.string s)], .str t s hu (by simpa using hw), .single (.sc _ rfl)⟩
        · simp at h
    case h_4 kk hu =>
      unfold DataW.trod at h; simp only [hu] at h
      split at h
      all_goals first
        | (exfalso; simp_all; done)
        | skip
      all_goals
        rename_i k2 k3 n heq
        injection heq with heq; injection heq with heq; subst heq
        split at h
        · rename_i hc
          obtain ⟨rfl, hwf⟩ := hc
          exact ⟨[.sc (.float _ n)], .flt t _ n hu, .single (.sc _ rfl)⟩
        · simp at h
    case h_5 e hu =>
      simp only [Bool.and_eq_true] at hok
      have hpos : 0 < P.cellsOf e := Nat.le_of_ble_eq_true hok.1
      unfold DataW.trod at h; simp only [hu] at h
      split at h
      all_goals first
        | (exfalso; simp_all; done)
        | skip
      · simp only [Option.some.injEq, Prod.mk.injEq] at h
        exact ⟨[.list []], .slice t e [] hu (fun row h => by simp at h) (by simp), .single (.nil _ _)⟩
      · rename_i e2 a len cap heq
        injection heq with heq; injection heq with heq; subst heq
        split at h
        case isFalse => simp at h
        rename_i hc
        cases hm : List.mapM (fun i => (w.cells? 0 (a.add (i * P.cellsOf e)) (P.cellsOf e)).bind (DataW.trod enc P w 0 spare held fuel e)) (List.range len) with
        | none => rw [hm] at h; simp at h
        | some elems =>
        rw [hm] at h
        simp only [Option.bind_some, Option.map_eq_some_iff] at h
        obtain ⟨rest, _, h2⟩ := h
        simp only [Prod.mk.injEq] at h2
        obtain ⟨rfl, _⟩ := h2
        obtain ⟨hl1, hm2⟩ := mapM_spec hm
        simp only [List.length_range] at hl1
        simp only [DataW.weights, hu, List.all_cons, Bool.and_eq_true, decide_eq_true_eq, List.length_map] at hw
        obtain ⟨hw1, hw2⟩ := hw
        have hw3 := weightsAll_mem (all_append hw2).1
        obtain ⟨rows, hr1, hr2⟩ := exists_list (p := fun i x => ∃ csi, w.cells? 0 (a.add (i * P.cellsOf e)) (P.cellsOf e) = some csi ∧ Typed P e x ∧ RDs (S0 w) w x csi) len fun i hi => by
          obtain ⟨y, h3, h4⟩ := hm2 i i (List.getElem?_range hi)
          rw [Option.bind_eq_some_iff] at h3
          obtain ⟨csi, h5, h6⟩ := h3
          obtain ⟨x, h7, h8⟩ := ih e csi y.1 y.2 hok.2 h6 (hw3 y.1 (List.mem_map.2 ⟨y, List.mem_of_getElem? h4, rfl⟩))
          exact ⟨x, csi, h5, h7, h8⟩
        refine ⟨[.list rows], .slice t e rows hu (fun row hrow => ?_) ?_, .single ?_⟩
        · obtain ⟨i, hi⟩ := List.mem_iff_getElem?.1 hrow
          obtain ⟨_, _, h3, _⟩ := hr2 i row hi
          exact h3
        · rw [hr1, ← hl1]
          exact Nat.le_trans (Nat.mul_le_mul_right _ (by omega)) hw1
        · have key : ∀ (i j : Nat) (row : List D) (d : D), rows[i]? = some row → row[j]? = some d → ∃ v, a.spot = none ∧ cellAt w a.block (a.off + (i * P.cellsOf e + j)) = some v ∧ RD (S0 w) w d v := by
            intro i j row d h1 h2
            obtain ⟨csi, h3, _, h4⟩ := hr2 i row h1
            obtain ⟨h5, h6⟩ := cells_spec h3
            have hj : j < P.cellsOf e := by
              have := (List.getElem?_eq_some_iff.1 h2).1
              rw [h4.1, h5] at this; exact this
            obtain ⟨v, h7, h8⟩ := h6 j hj
            have hrd := h4.2 j d v h2 h7
            have hi0 : 0 < rows.length := by have := (List.getElem?_eq_some_iff.1 h1).1; omega
            have hspot : a.spot = none := by
              obtain ⟨cs0, h9, _, h10⟩ := hr2 0 rows[0] (List.getElem?_eq_getElem hi0)
              obtain ⟨_, h12⟩ := cells_spec h9
              obtain ⟨v0, _, h13⟩ := h12 0 hpos
              have := cell_spot h13
              simpa [Addr.add] using this
            refine ⟨v, hspot, ?_, hrd⟩
            rw [add_spec hspot, add_spec rfl] at h8
            unfold cellAt
            rw [← h8]
            congr 2
            simp only []
            omega
          cases hlen : rows.length with
          | zero =>
            have : rows = [] := List.length_eq_zero_iff.1 hlen
            subst this
            rw [← hr1]; exact .nil _ _
          | succ m =>
            have h0 : 0 < rows.length := by omega
            have hlen0 : rows[0].length = P.cellsOf e := by
              obtain ⟨cs0, h9, _, h10⟩ := hr2 0 rows[0] (List.getElem?_eq_getElem h0)
              rw [h10.1, (cells_spec h9).1]
            have hspot : a.spot = none := by
              have h1 : rows[0][0]? = some rows[0][0] := List.getElem?_eq_getElem (by omega)
              obtain ⟨_, h, _⟩ := key 0 0 _ _ (List.getElem?_eq_getElem h0) h1
              exact h
            have ha : a = ⟨a.block, a.off, none⟩ := by cases a; simp at hspot; subst hspot; rfl
            have := RD.list (S := S0 w) (w := w) a.block a.off cap (P.cellsOf e) rows (fun i j => (cellAt w a.block (a.off + (i * P.cellsOf e + j))).getD Go.undef) (by omega)
              (fun i row h1 => by obtain ⟨csi, h3, _, h4⟩ := hr2 i row h1; rw [h4.1, (cells_spec h3).1])
              (fun i j row d h1 h2 => by obtain ⟨v, _, h4, _⟩ := key i j row d h1 h2; exact ⟨⟨v, h4⟩, by rw [h4]; rfl⟩)
              (fun i j row d h1 h2 => by obtain ⟨v, _, h4, h5⟩ := key i j row d h1 h2; rw [h4]; exact h5)
            rw [hr1] at this
            rw [ha]; exact this
    case h_6 fs hu =>
      simp only [Bool.and_eq_true] at hok
      unfold DataW.trod at h; simp only [hu] at h
      split at h
      all_goals first
        | (exfalso; simp_all; done)
        | skip
      rename_i hlen
      simp only [Option.map_eq_some_iff] at h
      obtain ⟨ys, hm, h2⟩ := h
      simp only [Prod.mk.injEq] at h2
      obtain ⟨rfl, _⟩ := h2
      obtain ⟨hl1, hm2⟩ := mapM_spec hm
      simp only [DataW.weights, hu] at hw
      have hw3 := weightsEach_get hw
      obtain ⟨xss, hx1, hx2⟩ := exists_list (p := fun i x => ∀ f, fs.toList[i]? = some f → Typed P f.type x ∧ RDs (S0 w) w x ((cs.drop f.offset).take (P.cellsOf f.type))) fs.size fun i hi => by
        have hf : fs.toList[i]? = some fs[i] := by rw [Array.getElem?_toList]; exact Array.getElem?_eq_getElem hi
        obtain ⟨y, h3, h4⟩ := hm2 i _ hf
        have hokf : S.elem fs[i].type = true := (List.all_eq_true.1 hok.2) _ (List.mem_of_getElem? hf)
        obtain ⟨x, h7, h8⟩ := ih fs[i].type _ y.1 y.2 hokf h3 (hw3 i _ y.1 (by rw [List.getElem?_map, hf]; rfl) (by rw [List.getElem?_map, h4]; rfl))
        refine ⟨x, fun f hf2 => ?_⟩
        rw [hf] at hf2; injection hf2 with hf2; subst hf2; exact ⟨h7, h8⟩
      refine ⟨xss.flatten, .struct t fs xss hu hx1 fun i f xs h1 h2 => (hx2 i xs h2 f h1).1, ?_⟩
      have hcons : consec P fs.toList 0 = some cs.length := by
        have := hok.1
        split at this
        · rename_i m hm; rw [hm, hlen, Nat.eq_of_beq_eq_true this]
        · simp at this
      have hflat := consec_flat hcons (Nat.zero_le _) rfl
      rw [List.drop_zero] at hflat
      rw [← hflat]
      refine flat_rel (by simp [hx1]) fun i xs c h1 h2 => ?_
      rw [List.getElem?_map, Option.map_eq_some_iff] at h2
      obtain ⟨f, hf, rfl⟩ := h2
      exact (hx2 i xs h1 f hf).2
    case h_7 n e hu =>
      simp only [Bool.and_eq_true] at hok
      unfold DataW.trod at h; simp only [hu] at h
      split at h
      all_goals first
        | (exfalso; simp_all; done)
        | skip
      rename_i hlen
      simp only [Option.map_eq_some_iff] at h
      obtain ⟨ys, hm, h2⟩ := h
      simp only [Prod.mk.injEq] at h2
      obtain ⟨rfl, _⟩ := h2
      obtain ⟨hl1, hm2⟩ := mapM_spec hm
      simp only [DataW.weights, hu] at hw
      have hw3 := weightsAll_mem hw
      obtain ⟨xss, hx1, hx2⟩ := exists_list (p := fun i x => Typed P e x ∧ RDs (S0 w) w x ((cs.drop (i * P.cellsOf e)).take (P.cellsOf e))) n fun i hi => by
        obtain ⟨y, h3, h4⟩ := hm2 i i (List.getElem?_range hi)
        obtain ⟨x, h7, h8⟩ := ih e _ y.1 y.2 hok.2 h3 (hw3 y.1 (List.mem_map.2 ⟨y, List.mem_of_getElem? h4, rfl⟩))
        exact ⟨x, h7, h8⟩
      refine ⟨xss.flatten, .array t n e xss hu hx1 fun xs hxs => ?_, ?_⟩
      · obtain ⟨i, hi⟩ := List.mem_iff_getElem?.1 hxs
        exact (hx2 i xs hi).1
      have hflat := array_flat (cs := cs) (m := P.cellsOf e) n 0 (by omega) (by rw [Nat.zero_add, Nat.eq_of_beq_eq_true hok.1, hlen])
      rw [Nat.zero_mul, List.drop_zero] at hflat
      rw [← hflat]
      refine flat_rel (by simp [hx1]) fun i xs c h1 h2 => ?_
      rw [List.getElem?_map, Option.map_eq_some_iff] at h2
      obtain ⟨j, hj, rfl⟩ := h2
      rw [← List.range_eq_range'] at hj
      have : j = i := by
        obtain ⟨h3, h4⟩ := List.getElem?_eq_some_iff.1 hj
        simpa using h4.symm
      subst this
      exact (hx2 j xs h1).2
    case h_8 => simp at hok
end Go.Am
/- The abstract machine: from a function that computes true to a law that holds. -/
namespace Go.Am
def aggTy (P : Program) (t : TypeId) : Bool :=
  match P.underlying t with
  | some (.struct _) | some (.array _ _) => true
  | _ => false
def argV (a : Bool) (xs : List D) : V := bif a then .agg (xs.map .d) else match xs with
  | [x] => .one (.d x)
  | _ => .undef
def k0 (W : World) : K := { S := S0 W, at_ := fun _ => none, sl := fun _ _ _ => none }
theorem globOk_of [HasGlob] {W : World} (h : ∀ (k : Nat) (ds : List D), HasGlob.g k = some ds → ∀ (j : Nat) (d : D), ds[j]? = some d → ∃ v, d = .sc v ∧ plain v = true ∧ cellAt W k j = some v) : GlobOk (k0 W) W := fun k ds hk j d hd => by
  obtain ⟨v, rfl, h1, h2⟩ := h k ds hk j d hd
  exact ⟨⟨v, h2⟩, v, h2, .sc _ h1⟩
theorem k0_rs [HasGlob] (W : World) (hG : GlobOk (k0 W) W) : RS (k0 W) W [] :=
  ⟨fun id o h => by simp at h, fun _ _ _ _ _ h => by simp at h, fun _ _ h => by simp at h, fun b o ⟨v, hv⟩ => by
    unfold cellAt World.cell? at hv
    split at hv
    · rename_i h; exact (Array.getElem?_eq_some_iff.1 h).1
    · simp at hv, hG⟩
theorem under_data (L : Nat → Bool) : ∀ xs : List D, underAll L (xs.map .d) = true
  | [] => rfl
  | x :: xs => by simp only [List.map_cons, underAll, Cell.under, Bool.true_and]; exact under_data L xs
theorem argV_under (L : Nat → Bool) (a : Bool) (xs : List D) : (argV a xs).under L = true := by
  cases a with
  | true => exact under_data L xs
  | false => unfold argV; simp only [cond_false]; split <;> rfl
theorem arg_open {H : Type} {enc : TypeId × Value → H} {P : Program} {W : World} {spare : Nat → Bool} {held : Bool} {k : Nat} {t : TypeId} {v : Value} {d : DataW H} {ps : List MemPlace} {r : Reach} {base : Nat}
    (hok : readOk P k t = true) (h : DataW.Trod enc P W 0 spare held t v d ps) (hw : (d.weights P t).all (· ≤ reachBytes) = true) (hv : Value.okWide P W r base t v) :
    ∃ xs, Typed P t xs ∧ RV (k0 W) W (argV (aggTy P t) xs) v := by
  obtain ⟨fuel, hf⟩ := h
  obtain ⟨S, hS, ht⟩ := readOk_out hok
  obtain ⟨xs, h1, h2⟩ := open_sound hS fuel t _ d ps ht hf hw
  refine ⟨xs, h1, ?_⟩
  have one : aggTy P t = false → v.cells = #[v] → RV (k0 W) W (argV (aggTy P t) xs) v := by
    intro ha hc
    rw [hc] at h2
    match xs, h2 with
    | [x], h2 => rw [ha]; exact .one _ _ (.d _ _ (h2.2 0 x v rfl rfl))
    | [], h2 => have := h2.1; simp at this
    | _ :: _ :: _, h2 => have := h2.1; simp at this
  have agg : aggTy P t = true → (∃ cs, v = .agg cs) → RV (k0 W) W (argV (aggTy P t) xs) v := by
    intro ha ⟨cs, hc⟩
    subst hc
    rw [ha]
    refine .agg _ _ ⟨by simpa [Value.cells] using h2.1, fun i c u hc hu => ?_⟩
    rw [List.getElem?_map, Option.map_eq_some_iff] at hc
    obtain ⟨x, hx, rfl⟩ := hc
    exact .d _ _ (h2.2 i x u hx (by simpa [Value.cells] using hu))
  have hok := readAll_get hS ht
  unfold readStep at hok
  split at hok
  case h_1 hu => exact one (by simp [aggTy, hu]) (by obtain ⟨_, rfl⟩ := Go.WideShapes.okWide_bool hu hv; rfl)
  case h_2 hu => exact one (by simp [aggTy, hu]) (by obtain ⟨_, rfl⟩ := Go.WideShapes.okWide_int hu hv; rfl)
  case h_3 hu => exact one (by simp [aggTy, hu]) (by obtain ⟨_, rfl⟩ := Go.WideShapes.okWide_string hu hv; rfl)
  case h_4 hu => exact one (by simp [aggTy, hu]) (by
    simp only [Value.okWide, hu, Cell.okWide] at hv
    cases v <;> first | rfl | (simp [Cell.ok] at hv))
  case h_5 hu => exact one (by simp [aggTy, hu]) (by obtain ⟨_, _, _, rfl⟩ := Go.WideShapes.okWide_slice hu hv; rfl)
  case h_6 hu => exact agg (by simp [aggTy, hu]) (by simp only [Value.okWide, hu] at hv; obtain ⟨cs, h, _⟩ := hv; exact ⟨cs, h⟩)
  case h_7 hu => exact agg (by simp [aggTy, hu]) (by simp only [Value.okWide, hu] at hv; obtain ⟨cs, h, _⟩ := hv; exact ⟨cs, h⟩)
  case h_8 => simp at hok
theorem calls_of_comp [HasGlob] {P : Program} {f : FuncId} {args : List V} (h : Comp P f args (bool true)) {W : World} (hG : GlobOk (k0 W) W) {xs : List Value} (hx : RVs (k0 W) W (alive []) args xs) :
    Calls P f xs.toArray W fun e W' => e = .returned (.bool true) ∧ Go.RowKit.Below W.heap.size W W' := by
  refine (h.2 (k0 W) W xs (k0_rs W hG) hx).mono fun en w' ⟨x, r, κ', σ', h1, ⟨h2, h3⟩, hrv, _, hev, _⟩ => ?_
  subst h2
  have hx : x = .bool true := by cases hrv with | one _ _ hc => cases hc with | d _ _ hd => cases hd with | sc _ _ => rfl
  subst hx
  refine ⟨h1, hev.os, hev.tape, hev.output, hev.size, fun k hk => hev.frame k hk ?_⟩
  rintro ⟨id, o, h, _⟩
  simp at h
/-! what data of a type looks like -/
theorem Typed.int_inv {P : Program} {t : TypeId} {xs : List D} {k : IntKind} (h : Typed P t xs) (hu : P.underlying t = some (.int k)) : ∃ n, xs = [.sc (.int k n)] ∧ (Lit.int k n).wf = true := by
  cases h with
  | int _ k' n h' hw => rw [hu] at h'; injection h' with h'; injection h' with h'; subst h'; exact ⟨n, rfl, hw⟩
  | _ => simp_all
theorem Typed.str_inv {P : Program} {t : TypeId} {xs : List D} (h : Typed P t xs) (hu : P.underlying t = some .string) : ∃ s, xs = [.sc (.string s)] ∧ s.size ≤ reachBytes := by
  cases h with
  | str _ s _ hs => exact ⟨s, rfl, hs⟩
  | _ => simp_all
theorem Typed.slice_inv {P : Program} {t e : TypeId} {xs : List D} (h : Typed P t xs) (hu : P.underlying t = some (.slice e)) : ∃ rows, xs = [.list rows] ∧ (∀ row ∈ rows, Typed P e row) ∧ rows.length * P.bytesOf e ≤ reachBytes := by
  cases h with
  | slice _ e' rows h' hr hs => rw [hu] at h'; injection h' with h'; injection h' with h'; subst h'; exact ⟨rows, rfl, hr, hs⟩
  | _ => simp_all
end Go.Am
