/- A part of a proof: functions of the program walked over the abstract machine, and what they compute. -/
import GoSem.Dispatch
import Derived.Calls
import Derived.Orders
import Derived.Laws.Sem
set_option linter.unusedVariables false
set_option linter.unusedSimpArgs false
/- Whole numbers as floating-point numbers: below 2^53 sums, differences and comparisons are exact. -/
namespace Go.Am
open Ieee
set_option maxRecDepth 10000
/-- a natural number, as a word of the double format -/
def F (n : Nat) : Nat := Ieee.double.nearest false n 0
theorem nearest_F (n : Nat) : FloatKind.f64.nearest (n : Int) = F n := by
  unfold FloatKind.nearest FloatKind.encode FloatKind.format F
  have : ¬ ((n : Int) < 0) := by omega
  simp [Format.write, this]
theorem F_zero : F 0 = 0 := by decide
theorem F_one : F 1 = 4607182418800017408 := by decide +kernel
theorem log_lt {n : Nat} (h0 : n ≠ 0) (h : n < 2 ^ 53) : n.log2 ≤ 52 := by
  have := (Nat.log2_lt h0).2 h; omega
theorem rung {n : Nat} (h0 : n ≠ 0) (h : n < 2 ^ 53) : 2 ^ 52 ≤ n * 2 ^ (52 - n.log2) ∧ n * 2 ^ (52 - n.log2) < 2 ^ 53 := by
  have hL := log_lt h0 h
  have h1 := Nat.log2_self_le h0
  have h2 := Nat.lt_log2_self (n := n)
  have e1 : 2 ^ n.log2 * 2 ^ (52 - n.log2) = 2 ^ 52 := by rw [← Nat.pow_add]; congr 1; omega
  have e2 : 2 ^ (n.log2 + 1) * 2 ^ (52 - n.log2) = 2 ^ 53 := by rw [← Nat.pow_add]; congr 1; omega
  refine ⟨?_, ?_⟩
  · rw [← e1]; exact Nat.mul_le_mul_right _ h1
  · rw [← e2]; exact Nat.mul_lt_mul_of_pos_right h2 (Nat.two_pow_pos _)
theorem cut_zero (n : Nat) : Toward.even.cut false n 0 = n := by
  simp [Toward.cut, Nat.mod_one]
theorem nearest_rep (k j : Nat) (h : k < 2 ^ 53) : Ieee.double.nearest false (k * 2 ^ j) (-(j : Int)) = if k = 0 then 0 else (k.log2 + 1022) * 2 ^ 52 + k * 2 ^ (52 - k.log2) := by
  by_cases h0 : k = 0
  · subst h0; simp [Format.nearest, Format.word]
  rw [if_neg h0]
  have hL := log_lt h0 h
  have hp : 0 < 2 ^ j := Nat.two_pow_pos _
  have hm : k * 2 ^ j ≠ 0 := by
    intro he
    rcases Nat.mul_eq_zero.1 he with h | h <;> omega
  have hlog : (k * 2 ^ j).log2 = k.log2 + j := by
    rw [Nat.log2_eq_iff hm]
    have h1 := Nat.log2_self_le h0
    have h2 := Nat.lt_log2_self (n := k)
    rw [Nat.pow_add]
    refine ⟨Nat.mul_le_mul_right _ h1, ?_⟩
    rw [show k.log2 + j + 1 = (k.log2 + 1) + j by omega, Nat.pow_add]
    exact Nat.mul_lt_mul_of_pos_right h2 hp
  have hlp : Ieee.double.leastPlace = -1074 := by decide
  have hfb : (Ieee.double.fractionBits : Int) = 52 := rfl
  have hbin : Ieee.double.binade = 2 ^ 52 := rfl
  have hinf : Ieee.double.infRung = 2047 * 2 ^ 52 := by decide +kernel
  have hr := rung h0 h
  unfold Format.nearest
  rw [if_neg hm]
  have hlast : max (-(j : Int) + ((k * 2 ^ j).log2 : Int) - (Ieee.double.fractionBits : Int)) Ieee.double.leastPlace = (k.log2 : Int) - 52 := by
    rw [hlog, hlp, hfb]; omega
  rw [hlp] at hlast
  simp only [hlp, hlast, hlp, hbin, hinf]
  have hkept : Toward.even.cut false ((k * 2 ^ j) <<< (-(j : Int) - ((k.log2 : Int) - 52)).toNat) ((k.log2 : Int) - 52 - -(j : Int)).toNat = k * 2 ^ (52 - k.log2) := by
    by_cases hj : j ≤ 52 - k.log2
    · have e1 : ((k.log2 : Int) - 52 - -(j : Int)).toNat = 0 := by omega
      have e2 : (-(j : Int) - ((k.log2 : Int) - 52)).toNat = 52 - k.log2 - j := by omega
      rw [e1, e2, cut_zero, Nat.shiftLeft_eq, Nat.mul_assoc, ← Nat.pow_add]
      congr 2; omega
    · have e2 : (-(j : Int) - ((k.log2 : Int) - 52)).toNat = 0 := by omega
      obtain ⟨d, hd⟩ : ∃ d, j = d + (52 - k.log2) := ⟨j - (52 - k.log2), by omega⟩
      have e1 : ((k.log2 : Int) - 52 - -(j : Int)).toNat = d := by omega
      rw [e1, e2, Nat.shiftLeft_zero]
      unfold Toward.cut
      have e3 : min d ((k * 2 ^ j).log2 + 2) = d := by rw [hlog]; omega
      have e4 : k * 2 ^ j = k * 2 ^ (52 - k.log2) * 2 ^ d := by rw [hd, Nat.mul_assoc, ← Nat.pow_add]; congr 2; omega
      have hpd : 0 < 2 ^ d := Nat.two_pow_pos _
      simp only [e3, Nat.one_shiftLeft]
      rw [e4, Nat.mul_div_cancel _ hpd, Nat.mul_mod_left]
      have e5 : (2 ^ d == 2 * 0) = false := by rw [beq_eq_false_iff_ne]; omega
      simp [e5]
  rw [hkept]
  have e6 : ((k.log2 : Int) - 52 - -1074).toNat = k.log2 + 1022 := by omega
  rw [e6]
  unfold Format.word
  simp only [Bool.false_eq_true, if_false]
  rw [Nat.min_eq_left]
  have : (k.log2 + 1022) * 2 ^ 52 ≤ 1074 * 2 ^ 52 := Nat.mul_le_mul_right _ (by omega)
  have e7 : (1074 * 2 ^ 52 : Nat) + 2 ^ 53 ≤ 2047 * 2 ^ 52 := by decide
  exact Nat.le_trans (Nat.add_le_add this (Nat.le_of_lt hr.2)) e7
theorem F_eq {n : Nat} (h : n < 2 ^ 53) : F n = if n = 0 then 0 else (n.log2 + 1022) * 2 ^ 52 + n * 2 ^ (52 - n.log2) := by
  have e : F n = Ieee.double.nearest false (n * 2 ^ 0) (-((0 : Nat) : Int)) := by
    rw [Nat.pow_zero, Nat.mul_one]; rfl
  rw [e]
  exact nearest_rep n 0 h
/-- a datum stands for a natural number -/
def Rep (n : Nat) (d : Datum) : Prop := ∃ j : Nat, d = .number false (n * 2 ^ j) (-(j : Int))
theorem write_rep {n : Nat} {d : Datum} (h : Rep n d) (hn : n < 2 ^ 53) : Ieee.double.write d = F n := by
  obtain ⟨j, rfl⟩ := h
  show Ieee.double.nearest false (n * 2 ^ j) (-(j : Int)) = F n
  rw [nearest_rep n j hn, F_eq hn]
theorem read_F {n : Nat} (hn : n < 2 ^ 53) : Rep n (Ieee.double.read (F n)) := by
  rw [F_eq hn]
  by_cases h0 : n = 0
  · subst h0
    exact ⟨1074, by decide +kernel⟩
  rw [if_neg h0]
  have hL := log_lt h0 hn
  obtain ⟨r1, r2⟩ := rung h0 hn
  refine ⟨52 - n.log2, ?_⟩
  generalize hk : n * 2 ^ (52 - n.log2) = k at *
  have hsw : Ieee.double.signWeight = 2 ^ 63 := by decide +kernel
  have hbin : Ieee.double.binade = 2 ^ 52 := rfl
  have hinf : Ieee.double.infRung = 2047 * 2 ^ 52 := by decide +kernel
  have hlp : Ieee.double.leastPlace = -1074 := by decide
  have hm : (n.log2 + 1022) * 2 ^ 52 ≤ 1074 * 2 ^ 52 := Nat.mul_le_mul_right _ (by omega)
  have hw : (n.log2 + 1022) * 2 ^ 52 + k < 2 ^ 63 := by omega
  have hge : 2 ^ 52 ≤ (n.log2 + 1022) * 2 ^ 52 + k := by omega
  unfold Format.read
  simp only [hsw, hbin, hinf, hlp]
  rw [Nat.div_eq_of_lt hw, Nat.mod_eq_of_lt hw, if_neg (by omega), if_pos (by omega)]
  have e1 : ((n.log2 + 1022) * 2 ^ 52 + k) % 2 ^ 52 = k - 2 ^ 52 := by
    rw [Nat.mul_comm, Nat.mul_add_mod]
    have : k = (k - 2 ^ 52) + 2 ^ 52 := by omega
    rw [this, Nat.add_mod_right, Nat.mod_eq_of_lt (by omega)]; omega
  have e2 : ((n.log2 + 1022) * 2 ^ 52 + k) / 2 ^ 52 = n.log2 + 1023 := by
    rw [Nat.mul_comm, Nat.mul_add_div (by omega)]
    have : k / 2 ^ 52 = 1 := by omega
    omega
  rw [e1, e2]
  have e3 : 2 ^ 52 + (k - 2 ^ 52) = k := by omega
  have e4 : (-1074 : Int) + ((n.log2 + 1023 - 1 : Nat) : Int) = -((52 - n.log2 : Nat) : Int) := by omega
  rw [e3, e4]; rfl
theorem shl_rep (n j : Nat) (b : Nat) (h : j ≤ b) : (n * 2 ^ j) <<< ((-(j : Int)) - (-(b : Int))).toNat = n * 2 ^ b := by
  have : ((-(j : Int)) - (-(b : Int))).toNat = b - j := by omega
  rw [this, Nat.shiftLeft_eq, Nat.mul_assoc, ← Nat.pow_add]
  congr 2; omega
theorem min_neg (j i : Nat) : min (-(j : Int)) (-(i : Int)) = -((max j i : Nat) : Int) := by omega
theorem sum_rep {n m : Nat} {d e : Datum} (h : Rep n d) (k : Rep m e) : ∃ f, d.sum e = some f ∧ Rep (n + m) f := by
  obtain ⟨j, rfl⟩ := h
  obtain ⟨i, rfl⟩ := k
  refine ⟨_, rfl, max j i, ?_⟩
  simp only [min_neg]
  rw [signed, signed]
  simp only [Bool.false_eq_true, if_false, Bool.and_self]
  rw [shl_rep n j (max j i) (by omega), shl_rep m i (max j i) (by omega)]
  have : ((n * 2 ^ max j i : Nat) : Int) + ((m * 2 ^ max j i : Nat) : Int) = (((n + m) * 2 ^ max j i : Nat) : Int) := by rw [Nat.add_mul]; omega
  rw [this]
  have h2 : ¬ (((n + m) * 2 ^ max j i : Nat) : Int) < 0 := by omega
  simp only [Int.natAbs_natCast, h2, decide_false, ite_self]
theorem sub_rep {n m : Nat} {d e : Datum} (h : Rep n d) (k : Rep m e) (hle : m ≤ n) : ∃ f, d.sum e.opposite = some f ∧ Rep (n - m) f := by
  obtain ⟨j, rfl⟩ := h
  obtain ⟨i, rfl⟩ := k
  refine ⟨_, rfl, max j i, ?_⟩
  simp only [min_neg]
  rw [signed, signed]
  simp only [Bool.false_eq_true, if_false, Bool.not_false, if_true, Bool.false_and]
  rw [shl_rep n j (max j i) (by omega), shl_rep m i (max j i) (by omega)]
  have : ((n * 2 ^ max j i : Nat) : Int) + -((m * 2 ^ max j i : Nat) : Int) = (((n - m) * 2 ^ max j i : Nat) : Int) := by
    have : m * 2 ^ max j i ≤ n * 2 ^ max j i := Nat.mul_le_mul_right _ hle
    rw [Nat.sub_mul]; omega
  rw [this]
  have h2 : ¬ (((n - m) * 2 ^ max j i : Nat) : Int) < 0 := by omega
  simp only [Int.natAbs_natCast, h2, decide_false, ite_self]
theorem add_F {n m : Nat} (h : n + m < 2 ^ 53) : Ieee.double.add (F n) (F m) = some (F (n + m)) := by
  obtain ⟨f, h1, h2⟩ := sum_rep (read_F (n := n) (by omega)) (read_F (n := m) (by omega))
  unfold Format.add
  rw [h1, Option.map_some, write_rep h2 h]
theorem sub_F {n m : Nat} (h : n < 2 ^ 53) (hle : m ≤ n) : Ieee.double.sub (F n) (F m) = some (F (n - m)) := by
  obtain ⟨f, h1, h2⟩ := sub_rep (read_F (n := n) (by omega)) (read_F (n := m) (by omega)) hle
  unfold Format.sub
  rw [h1, Option.map_some, write_rep h2 (by omega)]
/-- are two words one number? -/
def fEq (x y : Nat) : Bool := Op.floatEq .f64 x y
theorem fEq_def (x y : Nat) : fEq x y = Op.floatEq .f64 x y := rfl
attribute [irreducible] F fEq
end Go.Am
/- The abstract machine: values as data, local objects, and what one operation of a Go function does to them. Definitions alone. -/
namespace Go.Am
/-- data that is a value of its own: scalars, lists that nothing changes any more, values of interfaces -/
inductive D where
  | sc (v : Value)
  | list (rows : List (List D))
  | ifc (t : TypeId) (agg : Bool) (cells : List D)
  deriving Inhabited
inductive Cell where
  | d (x : D)
  | arr (id ep len : Nat)
  | ptr (id off : Nat)
  | eptr (id ep len sz idx off : Nat)
  | rptr (cells : List D)
  | map (id : Nat)
  | fn (f : Fn) (first captured : List Cell)
  deriving Inhabited
inductive FV where
  | one (c : Cell)
  | agg (cs : List Cell)
  deriving Inhabited
inductive V where
  | one (c : Cell)
  | agg (cs : List Cell)
  | tup (xs : List FV)
  | undef
  deriving Inhabited
/-- local objects: a variable, a growing array ('wr': its elements are written, too), a map -/
inductive Ob where
  | var (cells : List Cell)
  | arr (ep : Nat) (wr : Bool) (sz : Nat) (rows : List (List D))
  | map (entries : List (Value × FV))
  | dead
  deriving Inhabited
def FV.v : FV → V
  | .one c => .one c
  | .agg cs => .agg cs
def V.fv : V → Option FV
  | .one c => some (.one c)
  | .agg cs => some (.agg cs)
  | _ => none
def V.cells : V → Option (List Cell)
  | .one c => some [c]
  | .agg cs => some cs
  | _ => none
abbrev Env := List (Nat × V)
def Env.get : Env → Nat → Option V
  | [], _ => none
  | (s, x) :: r, t => bif Nat.beq s t then some x else Env.get r t
def Env.set (e : Env) (t : Nat) (v : V) : Env := (t, v) :: e
def Env.put (e : Env) (dst : Option Nat) (v : V) : Env :=
  match dst with
  | some t => Env.set e t v
  | none => e
/-! tables of types -/
inductive Tab where
  | leaf
  | node (l : Tab) (k : Nat) (i : TypeInfo) (r : Tab)
  | eqs (l : List Nat) (t : Tab)
def Tab.get : Tab → Nat → Option TypeInfo
  | .leaf, _ => none
  | .eqs _ t, k => t.get k
  | .node l k i r, t => bif Nat.beq k t then some i else bif Nat.ble t k then l.get t else r.get t
/-- structs whose values may be compared at once -/
def eqTypeOk (P : Program) (k : Nat) : Bool :=
  match P.underlying k with
  | some (.struct fs) => (!P.eqGuardType P.depth k && !P.stoodInHeld k) && fs.all fun f => f.name != "_"
  | _ => false
def Tab.fits (P : Program) : Tab → Prop
  | .leaf => True
  | .eqs l t => (∀ k ∈ l, eqTypeOk P k = true) ∧ t.fits P
  | .node l k i r => l.fits P ∧ P.info? k = some i ∧ r.fits P
def Tab.eqOk : Tab → Nat → Bool
  | .eqs l _, k => l.elem k
  | _, _ => false
def Tab.und (T : Tab) (t : TypeId) : Option TypeDesc :=
  match T.get t with
  | some { desc := .named _ u, .. } => (T.get u).map (·.desc)
  | some i => some i.desc
  | none => none
def Tab.size (T : Tab) (t : TypeId) : Option Nat := (T.get t).map (·.size)
def Tab.bytes (T : Tab) (t : TypeId) : Option Nat := (T.get t).map (·.bytes)
def Tab.zero (T : Tab) (t : TypeId) : Option Value := (T.get t).bind (·.zero)
def Tab.agg (T : Tab) (t : TypeId) : Option Bool :=
  match T.und t with
  | some (.struct _) | some (.array _ _) => some true
  | some _ => some false
  | none => none
/-- a slice type's element: its type -/
def Tab.elem (T : Tab) (t : TypeId) : Option TypeId :=
  match T.und t with
  | some (.slice e) => some e
  | _ => none
def Tab.field (T : Tab) (t : TypeId) (f : Nat) : Option Field :=
  match T.und t with
  | some (.struct fs) => fs.toList[f]?
  | _ => none
/-- a run that asks no world -/
def pureRun {α : Type} (P : Program) : Sem α → Option α
  | .pure a => some a
  | .program k => pureRun P (k P)
  | _ => none
/-- the value of one cell -/
def plain : Value → Bool
  | .agg _ | .tuple _ => false
  | _ => true
def allPlain : List Value → Bool
  | [] => true
  | v :: r => plain v && allPlain r
def ofValue : Value → Option V
  | .agg cs => bif allPlain cs.toList then some (.agg (cs.toList.map fun c => .d (.sc c))) else none
  | .tuple _ => none
  | v => some (.one (.d (.sc v)))
def ofValueF : Value → Option FV
  | .agg cs => bif allPlain cs.toList then some (.agg (cs.toList.map fun c => .d (.sc c))) else none
  | .tuple _ => none
  | v => some (.one (.d (.sc v)))
def scalCells : List Cell → Option (List Value)
  | [] => some []
  | .d (.sc v) :: r => match scalCells r with
    | some vs => some (v :: vs)
    | none => none
  | _ => none
/-- the value itself, where it is made of scalars alone -/
def V.scal : V → Option Value
  | .one (.d (.sc v)) => some v
  | .agg cs => match scalCells cs with
    | some vs => some (.agg vs.toArray)
    | none => none
  | _ => none
/-- package-level variables of which it is known what they hold, and that nothing changes them -/
class HasGlob where
  g : Nat → Option (List D)
section
def globV [HasGlob] (k : Nat) : Option V :=
  match HasGlob.g k with
  | some ds => some (.one (.rptr ds))
  | none => none
def ev [HasGlob] (e : Env) : Operand → Option V
  | .tmp t => Env.get e t
  | .const v => ofValue v
  | .global k => globV k
  | .func f => some (.one (.fn (.func f) [] []))
end
def V.int : V → Option Int
  | .one (.d (.sc (.int _ n))) => some n
  | _ => none
def V.bool : V → Option Bool
  | .one (.d (.sc (.bool b))) => some b
  | _ => none
def bool (b : Bool) : V := .one (.d (.sc (.bool b)))
def int (k : IntKind) (n : Int) : V := .one (.d (.sc (.int k n)))
def nilSlice : Value := .slice none 0 0
/-- cells as a value of a type -/
def mk (agg : Bool) (cs : List Cell) : Option V :=
  match agg with
  | true => some (.agg cs)
  | false => match cs with
    | [c] => some (.one c)
    | _ => none
def rowsOk (sz : Nat) (rows : List (List D)) : Bool := rows.all fun r => Nat.beq r.length sz
abbrev Look := Nat → Option Ob
/-- an array's rows, read as data (a growing one: what is there stays) -/
def rowsOf (look : Look) (mutToo : Bool) (id ep len : Nat) : Option (List (List D)) :=
  match look id with
  | some (.arr ep' m _ rows) => bif (Nat.beq ep ep' && Nat.beq len rows.length) && (!m || mutToo) then some rows else none
  | _ => none
/-- a cell as data -/
def dataOf (look : Look) : Cell → Option D
  | .d (.sc (.slice none 0 0)) => some (.list [])
  | .d x => some x
  | .arr id ep len => match rowsOf look false id ep len with
    | some rows => some (.list rows)
    | none => none
  | _ => none
def dataAll (look : Look) : List Cell → Option (List D)
  | [] => some []
  | c :: r => match dataOf look c, dataAll look r with
    | some x, some xs => some (x :: xs)
    | _, _ => none
/-- a cell that is handed on or handed back: growing arrays as data, a nil slice as an empty list -/
def snap (look : Look) : Cell → Option Cell
  | .d (.sc (.slice none 0 0)) => some (.d (.list []))
  | .arr id ep len => match rowsOf look false id ep len with
    | some rows => some (.d (.list rows))
    | none => none
  | c => some c
def snapAll (look : Look) : List Cell → Option (List Cell)
  | [] => some []
  | c :: r => match snap look c, snapAll look r with
    | some x, some xs => some (x :: xs)
    | _, _ => none
def snapF (look : Look) : FV → Option FV
  | .one c => (snap look c).map .one
  | .agg cs => (snapAll look cs).map .agg
def snapFs (look : Look) : List FV → Option (List FV)
  | [] => some []
  | c :: r => match snapF look c, snapFs look r with
    | some x, some xs => some (x :: xs)
    | _, _ => none
def snapV (look : Look) : V → Option V
  | .one c => (snap look c).map .one
  | .agg cs => (snapAll look cs).map .agg
  | .tup xs => (snapFs look xs).map .tup
  | .undef => none
def V.cell : V → Option Cell
  | .one c => some c
  | _ => none
def setCells (cs : List Cell) (off : Nat) (xs : List Cell) : List Cell := cs.take off ++ xs ++ cs.drop (off + xs.length)
def setD (cs : List D) (off : Nat) (xs : List D) : List D := cs.take off ++ xs ++ cs.drop (off + xs.length)
abbrev Upd := List (Nat × Ob)
abbrev St := List Ob
def St.upd (σ : St) : Upd → St
  | [] => σ
  | (i, o) :: u => St.upd (σ.set i o) u
/-- which objects live -/
def alive (σ : St) (id : Nat) : Bool :=
  match σ[id]? with
  | some .dead | none => false
  | _ => true
/-- what stands fast of a function: its program, the table of types, which temporaries are arrays of their own (true: elements are written), how many temporaries there are -/
structure Cx where
  P : Program
  T : Tab
  ar : List (Nat × Bool)
  n : Nat
def arMode : List (Nat × Bool) → Option Nat → Option Bool
  | [], _ => none
  | _, none => none
  | (t, m) :: r, some d => bif Nat.beq t d then some m else arMode r (some d)
/-! the operations -/
def loadFrom (T : Tab) (t : TypeId) (a : Cell) (look : Look) : Option V :=
  match T.size t, T.agg t with
  | some n, some g =>
    match a with
    | .ptr id off => match look id with
      | some (.var cells) => bif Nat.ble (off + n) cells.length then mk g ((cells.drop off).take n) else none
      | _ => none
    | .rptr ds => bif Nat.ble n ds.length then mk g ((ds.take n).map .d) else none
    | .eptr id ep len sz idx off => match look id with
      | some (.arr ep' _ sz' rows) => bif (Nat.beq ep ep' && Nat.beq len rows.length) && Nat.beq sz sz' then
          match rows[idx]? with
          | some row => bif Nat.ble (off + n) row.length then mk g (((row.drop off).take n).map .d) else none
          | none => none
        else none
      | _ => none
    | _ => none
  | _, _ => none
def storeTo (T : Tab) (t : TypeId) (a : Cell) (cs : List Cell) (look : Look) : Option Upd :=
  match T.size t with
  | some n => bif Nat.beq n cs.length then
    match a with
    | .ptr id off => match look id with
      | some (.var cells) => bif Nat.ble (off + n) cells.length then some [(id, .var (setCells cells off cs))] else none
      | _ => none
    | .eptr id ep len sz idx off => match look id, dataAll look cs with
      | some (.arr ep' true sz' rows), some ds => bif (Nat.beq ep ep' && Nat.beq len rows.length) && Nat.beq sz sz' then
          match rows[idx]? with
          | some row => bif Nat.ble (off + n) row.length then some [(id, .arr ep' true sz' (rows.set idx (setD row off ds)))] else none
          | none => none
        else none
      | _, _ => none
    | _ => none
    else none
  | none => none
def nilChecked : V → Option V
  | .one (.ptr i o) => some (.one (.ptr i o))
  | .one (.rptr ds) => some (.one (.rptr ds))
  | .one (.eptr a b c d e f) => some (.one (.eptr a b c d e f))
  | .one (.fn (.func f) a b) => some (.one (.fn (.func f) a b))
  | _ => none
def fieldAddr (T : Tab) (t : TypeId) (f : Nat) (x : V) : Option V :=
  match T.field t f with
  | some g => match T.size g.type with
    | some (_ + 1) => match x with
      | .one (.ptr id o) => some (.one (.ptr id (o + g.offset)))
      | .one (.rptr ds) => some (.one (.rptr (ds.drop g.offset)))
      | .one (.eptr id ep len sz idx o) => some (.one (.eptr id ep len sz idx (o + g.offset)))
      | _ => none
    | _ => none
  | none => none
def fieldOf (T : Tab) (t : TypeId) (f : Nat) (x : V) : Option V :=
  match T.field t f with
  | some g => match T.size g.type, T.agg g.type, x with
    | some n, some a, .agg cs => bif Nat.ble (g.offset + n) cs.length then mk a ((cs.drop g.offset).take n) else none
    | _, _, _ => none
  | none => none
def indexAddr (T : Tab) (t : TypeId) (x : V) (i : Int) (look : Look) : Option V :=
  match T.und t with
  | some (.slice e) => match T.size e with
    | some n => bif decide (0 ≤ i) then
        match x with
        | .one (.d (.list rows)) => match rows[i.toNat]? with
          | some row => bif Nat.beq row.length n then some (.one (.rptr row)) else none
          | none => none
        | .one (.arr id ep len) => match look id with
          | some (.arr ep' m sz rows) => bif (Nat.beq ep ep' && Nat.beq len rows.length) && Nat.beq sz n then
              match rows[i.toNat]? with
              | some row => bif m then some (.one (.eptr id ep len sz i.toNat 0)) else some (.one (.rptr row))
              | none => none
            else none
          | _ => none
        | _ => none
        else none
    | none => none
  | some (.array k e) => match T.size e with
    | some n => bif decide (0 ≤ i) && decide (i < k) then
        match x with
        | .one (.ptr id o) => some (.one (.ptr id (o + i.toNat * n)))
        | .one (.rptr ds) => some (.one (.rptr (ds.drop (i.toNat * n))))
        | .one (.eptr id ep len sz idx o) => some (.one (.eptr id ep len sz idx (o + i.toNat * n)))
        | _ => none
      else none
    | none => none
  | _ => none
def indexOf (T : Tab) (t : TypeId) (x : V) (i : Int) : Option V :=
  match T.und t with
  | some (.array k e) => match T.size e, T.agg e, x with
    | some n, some a, .agg cs => bif (decide (0 ≤ i) && decide (i < k)) && Nat.ble (i.toNat * n + n) cs.length then mk a ((cs.drop (i.toNat * n)).take n) else none
    | _, _, _ => none
  | some .string => match x with
    | .one (.d (.sc (.string s))) => bif decide (0 ≤ i) then
        match s.data.toList[i.toNat]? with
        | some b => some (int .u8 b.toNat)
        | none => none
      else none
    | _ => none
  | _ => none
/-- the bound of a slice expression, if it is written -/
def bound (ρ : Operand → Option V) : Option Operand → Option (Option Int)
  | none => some none
  | some x => match ρ x with
    | some v => match v.int with
      | some n => some (some n)
      | none => none
    | none => none
/-- x[lo:hi] of a string; of a list, of a growing array (as data) or of one that is cut back ('cut') -/
def sliceOf (T : Tab) (t : TypeId) (x : V) (lo hi : Option Int) (cut : Option Bool) (look : Look) : Option (V × Upd) :=
  let l := lo.getD 0
  match x with
  | .one (.d (.sc (.string s))) =>
    match T.und t with
    | some .string =>
      let h := hi.getD s.size
      bif decide (0 ≤ l) && decide (l ≤ h) && decide (h ≤ s.size) then some (.one (.d (.sc (.string (s.extract l.toNat h.toNat)))), []) else none
    | _ => none
  | .one (.d (.sc (.slice none 0 0))) => match T.elem t with
    | some e => match T.size e with
      | some _ => bif decide (l = 0) && decide (hi.getD 0 = 0) then some (.one (.d (.sc (.slice none 0 0))), []) else none
      | none => none
    | none => none
  | .one (.d (.list rows)) => match T.elem t with
    | some e => match T.size e with
      | some n =>
        let h := hi.getD rows.length
        bif (decide (0 ≤ l) && decide (l ≤ h) && decide (h ≤ rows.length)) && rowsOk n rows then some (.one (.d (.list ((rows.take h.toNat).drop l.toNat))), []) else none
      | none => none
    | none => none
  | .one (.arr id ep len) => match look id with
    | some (.arr ep' m sz rows) => match T.elem t with
      | some e => match T.size e with
        | some n =>
          let h := hi.getD rows.length
          bif (Nat.beq ep ep' && Nat.beq len rows.length) && (decide (0 ≤ l) && decide (l ≤ h) && decide (h ≤ rows.length)) && Nat.beq sz n then
            match cut with
            | some _ => bif decide (l = 0) && m then some (.one (.arr id (ep + 1) h.toNat), [(id, .arr (ep + 1) m sz (rows.take h.toNat))]) else none
            | none => bif m then none else some (.one (.d (.list ((rows.take h.toNat).drop l.toNat))), [])
          else none
        | none => none
      | none => none
    | _ => none
  | _ => none
/-- a list, worked out -/
def fL {α : Type} : List α → Option (List α)
  | [] => some []
  | x :: r => match fL r with
    | some r' => some (x :: r')
    | none => none
theorem fL_eq {α : Type} : ∀ l : List α, fL l = some l
  | [] => rfl
  | x :: r => by simp [fL, fL_eq r]
/-- a struct or an array out of its parts -/
def fillAt (place : Nat → Option (Nat × Nat)) (cells : List Cell) : List (Nat × List Cell) → Option (List Cell)
  | [] => some cells
  | (i, v) :: rest => match place i with
    | none => none
    | some (off, size) => bif Nat.beq v.length size && Nat.ble (off + v.length) cells.length then
        match fL (setCells cells off v) with
        | some cells' => fillAt place cells' rest
        | none => none
      else none
def partsOf (ρ : Operand → Option V) : List (Nat × Operand) → Option (List (Nat × List Cell))
  | [] => some []
  | (i, x) :: r => match ρ x with
    | some v => match v.cells, partsOf ρ r with
      | some cs, some rest => some ((i, cs) :: rest)
      | _, _ => none
    | none => none
def placesOf (T : Tab) : List Field → Option (List (Nat × Nat))
  | [] => some []
  | f :: r => match T.size f.type, placesOf T r with
    | some n, some rest => some ((f.offset, n) :: rest)
    | _, _ => none
def ofCells (vs : Array Value) : List Cell := vs.toList.map fun c => .d (.sc c)
/-- the cells of a type's zero value -/
def zeroCells (T : Tab) (t : TypeId) : Option (List Cell) :=
  match T.zero t with
  | some z => bif allPlain z.cells.toList then some (ofCells z.cells) else none
  | none => none
def buildOf (T : Tab) (t : TypeId) (parts : List (Nat × List Cell)) : Option (List Cell) :=
  match zeroCells T t with
  | some z => match T.und t with
    | some (.struct fs) => match placesOf T fs.toList with
      | some ps => fillAt (fun i => ps[i]?) z parts
      | none => none
    | some (.array _ e) => match T.size e with
      | some n => fillAt (fun i => some (i * n, n)) z parts
      | none => none
    | _ => none
  | none => none
/-- rows out of the cells of a slice -/
def rowsFrom (n : Nat) : Nat → List D → List (List D)
  | 0, _ => []
  | k + 1, ds => ds.take n :: rowsFrom n k (ds.drop n)
def zeroRows (T : Tab) (e : TypeId) (n len : Nat) : Option (List Cell) :=
  match len * n with
  | 0 => some []
  | _ + 1 => match zeroCells T e with
    | some z => bif Nat.beq z.length n then some ((List.replicate len z).flatten) else none
    | none => none
def buildSliceOf (T : Tab) (t : TypeId) (len : Nat) (parts : List (Nat × List Cell)) (look : Look) : Option (Nat × List (List D)) :=
  match T.elem t with
  | some e => match T.size e with
    | some n => bif Nat.ble (len * n) (2 ^ 24) then
        match zeroRows T e n len with
        | some cs => match fillAt (fun i => some (i * n, n)) cs parts with
          | some cs => match dataAll look cs with
            | some ds => some (n, rowsFrom n len ds)
            | none => none
          | none => none
        | none => none
      else none
    | none => none
  | none => none
/-- what is appended: rows of a size -/
def rowsIn (look : Look) : V → Option (List (List D))
  | .one (.d (.list rows)) => some rows
  | .one (.d (.sc (.slice none 0 0))) => some []
  | .one (.d (.sc (.string s))) => some (s.data.toList.map fun b => [.sc (.int .u8 b.toNat)])
  | .one (.arr id ep len) => rowsOf look true id ep len
  | _ => none
def most : Nat := 2 ^ 47
def appendOf (T : Tab) (nid : Nat) (mode : Option Bool) (t : TypeId) (s x : V) (look : Look) : Option (V × Upd) :=
  match T.elem t, rowsIn look x with
  | some e, some xs => match T.size e, T.bytes e, zeroCells T e with
    | some n, some (w' + 1), some z => let w := w' + 1
      bif rowsOk n xs && Nat.beq z.length n then
        match s with
        | .one (.d (.sc (.slice none 0 0))) => bif Nat.ble (xs.length * w) most then
            match mode with
            | some m => some (.one (.arr nid 0 xs.length), [(nid, .arr 0 m n xs)])
            | none => some (.one (.d (.list xs)), [])
          else none
        | .one (.arr id ep len) => match look id with
          | some (.arr ep' m sz rows) => bif (Nat.beq ep ep' && Nat.beq len rows.length) && Nat.beq sz n && Nat.ble ((rows.length + xs.length) * w) most then
              some (.one (.arr id ep (rows.length + xs.length)), [(id, .arr ep m n (rows ++ xs))])
            else none
          | _ => none
        | _ => none
      else none
    | _, _, _ => none
  | _, _ => none
/-- an array of its own, or a list -/
def arrOrList (mode : Option Bool) (nid n : Nat) (rows : List (List D)) : Option (V × Upd) :=
  match mode with
  | some m => some (.one (.arr nid 0 rows.length), [(nid, .arr 0 m n rows)])
  | none => some (.one (.d (.list rows)), [])
def makeSliceOf (T : Tab) (nid : Nat) (mode : Option Bool) (t : TypeId) (len cap : Int) : Option (V × Upd) :=
  match T.elem t with
  | some e => match T.size e, T.bytes e, T.zero e with
    | some n, some w, some z => bif (decide (len = cap) && decide (0 ≤ len) && decide (len * w ≤ most) && decide (len < 2 ^ 62)) && (Nat.beq z.cells.size n && allPlain z.cells.toList) then
        arrOrList mode nid n (List.replicate len.toNat (z.cells.toList.map .sc))
      else none
    | _, _, _ => none
  | none => none
def lenOf (T : Tab) (t : TypeId) (look : Look) (x : V) : Option Int :=
  match T.und t with
  | some (.slice _) => match x with
    | .one (.d (.list rows)) => some rows.length
    | .one (.d (.sc (.slice none 0 0))) => some 0
    | .one (.arr _ _ len) => some len
    | _ => none
  | some .string => match x with
    | .one (.d (.sc (.string s))) => some s.size
    | _ => none
  | some (.map _ _) => match x with
    | .one (.map id) => match look id with
      | some (.map es) => some es.length
      | _ => none
    | _ => none
  | some (.array n _) => some n
  | _ => none
/-- keys of maps: whole numbers and strings -/
def keyEq : Value → Value → Option Bool
  | .int k a, .int k' b => bif decide (k = k') then some (a == b) else none
  | .string a, .string b => some (a == b)
  | _, _ => none
def findKey (k : Value) : List (Value × FV) → Nat → Option (Option (Nat × FV))
  | [], _ => some none
  | (k', v) :: r, i => match keyEq k k' with
    | some true => some (some (i, v))
    | some false => findKey k r (i + 1)
    | none => none
def keyFits (T : Tab) (t : TypeId) (k : Value) : Bool :=
  match T.und t, k with
  | some (.int _), .int _ _ => true
  | some .string, .string _ => true
  | _, _ => false
/-- a map's entries and its types -/
def entriesOf (T : Tab) (t : TypeId) (m k : V) (look : Look) : Option (Nat × List (Value × FV) × Value × TypeId) :=
  match T.und t with
  | some (.map kt et) => match m, k with
    | .one (.map id), .one (.d (.sc k)) => match look id with
      | some (.map es) => bif keyFits T kt k then some (id, es, k, et) else none
      | _ => none
    | _, _ => none
  | _ => none
def lookupOf (T : Tab) (t : TypeId) (m k : V) (ok : Bool) (look : Look) : Option V :=
  match entriesOf T t m k look with
  | some (_, es, k, et) => match findKey k es 0 with
    | some (some (_, v)) => some (bif ok then .tup [v, .one (.d (.sc (.bool true)))] else v.v)
    | some none => match T.zero et with
      | some z => match ofValueF z with
        | some v => some (bif ok then .tup [v, .one (.d (.sc (.bool false)))] else v.v)
        | none => none
      | none => none
    | none => none
  | none => none
def updateOf (T : Tab) (t : TypeId) (m k x : V) (look : Look) : Option Upd :=
  match entriesOf T t m k look, x.fv with
  | some (id, es, k, _), some x => match findKey k es 0 with
    | some (some (i, _)) => some [(id, .map (es.set i (k, x)))]
    | some none => some [(id, .map (es ++ [(k, x)]))]
    | none => none
  | _, _ => none
def deleteOf (T : Tab) (t : TypeId) (m k : V) (look : Look) : Option Upd :=
  match entriesOf T t m k look with
  | some (id, es, k, _) => match findKey k es 0 with
    | some (some (i, _)) => some [(id, .map (es.eraseIdx i))]
    | some none => some [(id, .map es)]
    | none => none
  | none => none
def ifaceOf (look : Look) (t : TypeId) : V → Option V
  | .one c => match dataOf look c with
    | some x => some (.one (.d (.ifc t false [x])))
    | none => none
  | .agg cs => match dataAll look cs with
    | some xs => some (.one (.d (.ifc t true xs)))
    | none => none
  | _ => none
def isIface (T : Tab) (t : TypeId) : Option Bool :=
  match T.und t with
  | some (.interface _) => some true
  | some _ => some false
  | none => none
def assertOf (T : Tab) (x : V) (asserted : TypeId) (ok : Bool) : Option V :=
  match isIface T asserted with
  | some false => match x with
    | .one (.d (.ifc t g xs)) => bif Nat.beq t asserted then
        match mk g (xs.map .d) with
        | some v => match v.fv with
          | some f => some (bif ok then .tup [f, .one (.d (.sc (.bool true)))] else v)
          | none => none
        | none => none
        else bif ok then
          match T.zero asserted with
          | some z => match ofValueF z with
            | some f => some (.tup [f, .one (.d (.sc (.bool false)))])
            | none => none
          | none => none
        else none
    | .one (.d (.sc .nilIface)) => bif ok then
          match T.zero asserted with
          | some z => match ofValueF z with
            | some f => some (.tup [f, .one (.d (.sc (.bool false)))])
            | none => none
          | none => none
        else none
    | _ => none
  | _ => none
/-- the bytes of a list of bytes -/
def bytesOf : List (List D) → Option (List UInt8)
  | [] => some []
  | [.sc (.int .u8 n)] :: r => match bytesOf r with
    | some bs => some (UInt8.ofNat n.toNat :: bs)
    | none => none
  | _ => none
def convertOf (T : Tab) (src dst : TypeId) (x : V) (look : Look) : Option V :=
  match T.und src, T.und dst with
  | some .string, some (.slice e) => match T.und e, x with
    | some (.int .u8), .one (.d (.sc (.string s))) => some (.one (.d (.list (s.data.toList.map fun b => [.sc (.int .u8 b.toNat)]))))
    | _, _ => none
  | some (.slice e), some .string => match T.und e, rowsIn look x with
    | some (.int .u8), some rows => match x, bytesOf rows with
      | .one (.d (.sc (.string _))), _ => none
      | _, some bs => some (.one (.d (.sc (.string ⟨bs.toArray⟩))))
      | _, none => none
    | _, _ => none
  | some (.int _), some (.int k') => match x with
    | .one (.d (.sc (.int _ n))) => some (int k' (k'.wrap n))
    | _ => none
  | _, _ => none
mutual
def Cell.under (L : Nat → Bool) : Cell → Bool
  | .d _ | .rptr _ => true
  | .arr id _ _ | .ptr id _ | .eptr id _ _ _ _ _ | .map id => L id
  | .fn _ a b => underAll L a && underAll L b
def underAll (L : Nat → Bool) : List Cell → Bool
  | [] => true
  | c :: r => Cell.under L c && underAll L r
end
def FV.under (L : Nat → Bool) : FV → Bool
  | .one c => c.under L
  | .agg cs => underAll L cs
def V.under (L : Nat → Bool) : V → Bool
  | .one c => c.under L
  | .agg cs => underAll L cs
  | .tup xs => xs.all (FV.under L)
  | .undef => true
def Ob.under (L : Nat → Bool) : Ob → Bool
  | .var cs => underAll L cs
  | .arr _ _ _ _ => true
  | .map es => es.all fun x => x.2.under L
  | .dead => true
def idsCell : Cell → List Nat
  | .arr id _ _ | .ptr id _ | .eptr id _ _ _ _ _ | .map id => [id]
  | .fn _ _ _ => []
  | _ => []
def idsV : V → List Nat
  | .one c => idsCell c
  | .agg cs => cs.flatMap idsCell
  | .tup _ => []
  | .undef => []
def idsOps [HasGlob] (e : Env) (l : List Operand) : List Nat :=
  l.flatMap fun x => match ev e x with
    | some v => idsV v
    | none => []
/-- scalars alone: the model's own operation, where it asks no world -/
def isSelect : Op → Bool
  | .select _ _ => true
  | _ => false
def scalOp (P : Program) (ρ : Operand → Option V) (o : Oper) : Option V :=
  match !isSelect o.op && (o.op.operands.toList).all fun x => match ρ x with
    | some v => v.scal.isSome
    | none => false with
  | true => match pureRun P (execOp (fun x => match ρ x with
      | some v => match v.scal with
        | some y => y
        | none => Go.undef
      | none => Go.undef) o) with
    | some (.value y) => ofValue y
    | _ => none
  | false => none
def noU : Option V → Option (V × Upd)
  | some v => some (v, [])
  | none => none
def noV : Option Upd → Option (V × Upd)
  | some u => some (.undef, u)
  | none => none
/-- a nil slice that begins to be an array of its own -/
def adopt (T : Tab) (nid : Nat) (mode : Option Bool) (t : TypeId) (v : V) : Option (V × Upd) :=
  match mode with
  | none => some (v, [])
  | some m => match v with
    | .one (.d (.sc (.slice none 0 0))) => match T.elem t with
      | some e => match T.size e with
        | some n => some (.one (.arr nid 0 0), [(nid, .arr 0 m n [])])
        | none => none
      | none => none
    | _ => some (v, [])
/-- are two values of a type the same? -/
def eqOne (T : Tab) (t : TypeId) (a b : Value) : Option Bool :=
  match T.und t, a, b with
  | some (.int _), .int k x, .int k' y => bif decide (k = k') then some (x == y) else none
  | some .bool, .bool x, .bool y => some (x == y)
  | some .string, .string x, .string y => some (x == y)
  | some (.float _), .float .f64 x, .float .f64 y => some (fEq x y)
  | some (.complex _), .complex .f64 a b, .complex .f64 c d => some (fEq a c && fEq b d)
  | _, _, _ => none
def eqFs (T : Tab) : List Field → List Value → List Value → Option Bool
  | [], _, _ => some true
  | f :: fs, xs, ys => match xs[f.offset]?, ys[f.offset]? with
    | some a, some b => match eqOne T f.type a b, eqFs T fs xs ys with
      | some p, some q => some (p && q)
      | _, _ => none
    | _, _ => none
def eqVal (T : Tab) (t : TypeId) (fixed : Bool) (x y : V) : Option Bool :=
  match x, y with
  | .one (.d (.sc .nilIface)), .one (.d (.sc .nilIface)) => match T.und t with
    | some (.interface _) => bif fixed then some true else none
    | _ => none
  | .one (.d (.sc a)), .one (.d (.sc b)) => eqOne T t a b
  | .one (.d (.ifc _ _ _)), .one (.d (.sc .nilIface)) => match T.und t with
    | some (.interface _) => some false
    | _ => none
  | .agg xs, .agg ys => bif T.eqOk t then
      match T.und t, scalCells xs, scalCells ys with
      | some (.struct fs), some vs, some us => eqFs T fs.toList vs us
      | _, _, _ => none
    else none
  | _, _ => none
def isConst : Operand → Bool
  | .const _ => true
  | _ => false
/-- what one operation makes of the values of its operands and of the objects -/
def core (C : Cx) (nid : Nat) (ρ : Operand → Option V) (look : Look) (o : Oper) : Option (V × Upd) :=
  match o.op with
  | .move x | .assign x => match ρ x with
    | some v => adopt C.T nid (arMode C.ar o.dst) o.type v
    | none => none
  | .pick c a b => match ρ c with
    | some (.one (.d (.sc (.bool t)))) => bif t then noU (ρ a) else noU (ρ b)
    | _ => none
  | .alloc t => match zeroCells C.T t with
    | some z => some (.one (.ptr nid 0), [(nid, .var z)])
    | none => none
  | .box _ x => match ρ x with
    | some v => match v.cells with
      | some cs => some (.one (.ptr nid 0), [(nid, .var cs)])
      | none => none
    | none => none
  | .load t a => match ρ a with
    | some (.one a) => noU (loadFrom C.T t a look)
    | _ => none
  | .store t a x => match ρ a, ρ x with
    | some (.one a), some x => match x.cells with
      | some cs => noV (storeTo C.T t a cs look)
      | none => none
    | _, _ => none
  | .nilCheck x => match ρ x with
    | some v => noU (nilChecked v)
    | none => none
  | .fieldAddr t x f => match ρ x with
    | some v => noU (fieldAddr C.T t f v)
    | none => none
  | .field t x f => match ρ x with
    | some v => noU (fieldOf C.T t f v)
    | none => none
  | .indexAddr t x i => match ρ x, ρ i with
    | some x, some (.one (.d (.sc (.int _ i)))) => noU (indexAddr C.T t x i look)
    | _, _ => none
  | .index t x i => match ρ x, ρ i with
    | some x, some (.one (.d (.sc (.int _ i)))) => noU (indexOf C.T t x i)
    | _, _ => none
  | .extract x k => match ρ x with
    | some (.tup xs) => match xs[k]? with
      | some f => some (f.v, [])
      | none => none
    | _ => none
  | .slice t x lo hi none => match ρ x, bound ρ lo, bound ρ hi with
    | some x, some lo, some hi => sliceOf C.T t x lo hi (arMode C.ar o.dst) look
    | _, _, _ => none
  | .build t parts => match partsOf ρ parts.toList with
    | some ps => match buildOf C.T t ps with
      | some cs => some (.agg cs, [])
      | none => none
    | none => none
  | .buildSlice t len parts => match partsOf ρ parts.toList with
    | some ps => match buildSliceOf C.T t len ps look with
      | some (n, rows) => arrOrList (arMode C.ar o.dst) nid n rows
      | none => none
    | none => none
  | .makeInterface t x => match isIface C.T t, ρ x with
    | some false, some v => noU (ifaceOf look t v)
    | _, _ => none
  | .makeFunc f first captured => match first.toList.mapM ρ, captured.toList.mapM ρ with
    | some fs, some cs => match fs.mapM V.cell, cs.mapM V.cell with
      | some fs, some cs => some (.one (.fn f fs cs), [])
      | _, _ => none
    | _, _ => none
  | .typeAssert x _ t ok => match ρ x with
    | some v => noU (assertOf C.T v t ok)
    | none => none
  | .lookup t m k ok => match ρ m, ρ k with
    | some m, some k => noU (lookupOf C.T t m k ok look)
    | _, _ => none
  | .mapUpdate t m k x => match ρ m, ρ k, ρ x with
    | some m, some k, some x => noV (updateOf C.T t m k x look)
    | _, _, _ => none
  | .makeMap _ none => some (.one (.map nid), [(nid, .map [])])
  | .makeSlice t l c => match ρ l, ρ c with
    | some (.one (.d (.sc (.int _ l)))), some (.one (.d (.sc (.int _ c)))) => makeSliceOf C.T nid (arMode C.ar o.dst) t l c
    | _, _ => none
  | .convert src dst x => match ρ x with
    | some v => match convertOf C.T src dst v look with
      | some y => some (y, [])
      | none => noU (scalOp C.P ρ o)
    | none => none
  | .binOp op t x y _ => match ρ x, ρ y with
    | some a, some b => match op with
      | .eql => match eqVal C.T t (isConst x || isConst y) a b with
        | some r => some (bool r, [])
        | none => noU (scalOp C.P ρ o)
      | .neq => match eqVal C.T t (isConst x || isConst y) a b with
        | some r => some (bool (!r), [])
        | none => noU (scalOp C.P ρ o)
      | _ => noU (scalOp C.P ρ o)
    | _, _ => none
  | .call { callee := .builtin .len, args := xs, argTypes := ts } => match xs.toList, ts.toList with
    | [x], [t] => match ρ x with
      | some v => match lenOf C.T t look v with
        | some n => some (int .i64 n, [])
        | none => none
      | none => none
    | _, _ => none
  | .call { callee := .builtin .append, args := xs, argTypes := ts } => match xs.toList, ts.toList with
    | [s, x], [t, t'] => match ρ s, ρ x, C.T.und t' with
      | some s, some x, some (.slice _) => appendOf C.T nid (arMode C.ar o.dst) t s x look
      | some s, some x, some .string => appendOf C.T nid (arMode C.ar o.dst) t s x look
      | _, _, _ => none
    | _, _ => none
  | .call { callee := .builtin .delete, args := xs, argTypes := ts } => match xs.toList, ts.toList with
    | [m, k], [t, _] => match ρ m, ρ k with
      | some m, some k => match deleteOf C.T t m k look with
        | some u => some (.tup [], u)
        | none => none
      | _, _ => none
    | _, _ => none
  | .call { callee := .builtin .max, args := xs, argTypes := _ } => match xs.toList with
    | [x, y] => match ρ x, ρ y with
      | some (.one (.d (.sc (.int k a)))), some (.one (.d (.sc (.int _ b)))) => some (int k (if b > a then b else a), [])
      | _, _ => none
    | _ => none
  | .call { callee := .builtin .min, args := xs, argTypes := _ } => match xs.toList with
    | [x, y] => match ρ x, ρ y with
      | some (.one (.d (.sc (.int k a)))), some (.one (.d (.sc (.int _ b)))) => some (int k (if b < a then b else a), [])
      | _, _ => none
    | _ => none
  | _ => noU (scalOp C.P ρ o)
/-- does an operation make an object? -/
def makes (C : Cx) (o : Oper) : Bool :=
  match o.op with
  | .alloc _ | .box _ _ | .makeMap _ _ => true
  | .move _ | .assign _ | .buildSlice _ _ _ | .makeSlice _ _ _ => (arMode C.ar o.dst).isSome
  | .call { callee := .builtin .append, args := _, argTypes := _ } => (arMode C.ar o.dst).isSome
  | _ => false
/-- is an operation silent: does it look at no object? -/
def silent (o : Oper) : Bool :=
  match o.op with
  | .move _ | .assign _ | .pick _ _ _ | .alloc _ | .box _ _ | .nilCheck _ | .fieldAddr _ _ _ | .field _ _ _ | .index _ _ _ | .extract _ _ | .build _ _
  | .makeFunc _ _ _ | .typeAssert _ _ _ _ | .makeMap _ _ | .makeSlice _ _ _ | .binOp _ _ _ _ _ | .unOp _ _ _ => true
  | _ => false
def foot [HasGlob] (e : Env) (o : Oper) : List Nat := bif silent o then [] else idsOps e o.op.operands.toList
def inFoot (F : List Nat) (σ : St) : Look := fun id => bif F.elem id then σ[id]? else none
/-- the temporaries that an operation reads; what they hold -/
def temps : List Operand → List Nat
  | [] => []
  | .tmp t :: r => t :: temps r
  | _ :: r => temps r
def slots : List Nat → Env → Env
  | [], _ => []
  | t :: r, e => match Env.get e t with
    | some v => (t, v) :: slots r e
    | none => slots r e
def opEnv (e : Env) (o : Oper) : Env := slots (temps o.op.operands.toList) e
def aop [HasGlob] (C : Cx) (nid : Nat) (e : Env) (σ : St) (o : Oper) : Option (V × Upd) := core C nid (ev (opEnv e o)) (inFoot (foot (opEnv e o) o) σ) o
/-- is an operation's guard met? -/
def guardOk (e : Env) (ops : List Oper) (o : Oper) : Option Bool :=
  match o.guard with
  | none => some true
  | some (j, want) => match ops[j]? with
    | some p => match p.dst with
      | some t => match Env.get e t with
        | some (.one (.d (.sc (.bool b)))) => some (b == want)
        | some .undef => some false
        | _ => none
      | none => none
    | none => none
/-- who is called, with what -/
def evAll [HasGlob] (e : Env) : List Operand → Option (List V)
  | [] => some []
  | x :: r => match ev e x, evAll e r with
    | some v, some vs => some (v :: vs)
    | _, _ => none
def calleeOf [HasGlob] (e : Env) (o : Oper) : Option (FuncId × List V) :=
  match o.op with
  | .call { callee := .value f, args := xs, argTypes := _ } => match ev e f, evAll e xs.toList with
    | some (.one (.fn (.func g) first captured)), some vs => some (g, first.map .one ++ vs ++ captured.map .one)
    | _, _ => none
  | _ => none
def isCall (o : Oper) : Bool :=
  match o.op with
  | .call { callee := .value _, args := _, argTypes := _ } => true
  | .call { callee := .invoke _ _, args := _, argTypes := _ } => true
  | _ => false
def snapVs (look : Look) : List V → Option (List V)
  | [] => some []
  | v :: r => match snapV look v, snapVs look r with
    | some x, some xs => some (x :: xs)
    | _, _ => none
def noIds (v : V) : Bool := v.under fun _ => false
end Go.Am
/- The abstract machine: how its values and objects stand to the values and the memory of the model. -/
namespace Go.Am
/-- what is known of memory beside the state: S: cells that nobody changes any more; at: the block of a variable or a map; sl: the slice that an array was -/
structure K where
  S : Nat → Nat → Prop
  at_ : Nat → Option Nat
  sl : Nat → Nat → Nat → Option Value
def cellAt (w : World) (b o : Nat) : Option Value := w.cell? ⟨b, o, none⟩
inductive RD (S : Nat → Nat → Prop) (w : World) : D → Value → Prop where
  | sc (v : Value) (h : plain v = true) : RD S w (.sc v) v
  | nil (a : Option Addr) (cap : Nat) : RD S w (.list []) (.slice a 0 cap)
  | list (b off cap sz : Nat) (rows : List (List D)) (vs : Nat → Nat → Value)
      (hcap : rows.length ≤ cap) (hrow : ∀ (i : Nat) (row : List D), rows[i]? = some row → row.length = sz)
      (hcell : ∀ (i j : Nat) (row : List D) (d : D), rows[i]? = some row → row[j]? = some d → S b (off + (i * sz + j)) ∧ cellAt w b (off + (i * sz + j)) = some (vs i j))
      (hrel : ∀ (i j : Nat) (row : List D) (d : D), rows[i]? = some row → row[j]? = some d → RD S w d (vs i j)) :
      RD S w (.list rows) (.slice (some ⟨b, off, none⟩) rows.length cap)
  | ifc1 (t : TypeId) (d : D) (v : Value) (h : RD S w d v) : RD S w (.ifc t false [d]) (.iface t v)
  | ifcA (t : TypeId) (ds : List D) (vs : Array Value) (hn : ds.length = vs.size)
      (h : ∀ (i : Nat) (d : D), ds[i]? = some d → RD S w d (vs.getD i undef)) : RD S w (.ifc t true ds) (.iface t (.agg vs))
inductive RC (κ : K) (w : World) : Cell → Value → Prop where
  | d (x : D) (v : Value) (h : RD κ.S w x v) : RC κ w (.d x) v
  | arr (id ep len : Nat) (a : Option Addr) (cap : Nat) (h : κ.sl id ep len = some (.slice a len cap)) : RC κ w (.arr id ep len) (.slice a len cap)
  | ptr (id off b : Nat) (h : κ.at_ id = some b) : RC κ w (.ptr id off) (.pointer (some ⟨b, off, none⟩))
  | eptr (id ep len sz idx off b cap : Nat) (h : κ.sl id ep len = some (.slice (some ⟨b, 0, none⟩) len cap)) :
      RC κ w (.eptr id ep len sz idx off) (.pointer (some ⟨b, idx * sz + off, none⟩))
  | rptr (ds : List D) (b off : Nat) (h : ∀ (j : Nat) (d : D), ds[j]? = some d → κ.S b (off + j) ∧ ∃ v, cellAt w b (off + j) = some v ∧ RD κ.S w d v) :
      RC κ w (.rptr ds) (.pointer (some ⟨b, off, none⟩))
  | map (id b : Nat) (h : κ.at_ id = some b) : RC κ w (.map id) (.map (some b))
  | fn (f : Fn) (fs cs : List Cell) (xs ys : Array Value) (hx : fs.length = xs.size) (hy : cs.length = ys.size)
      (h : ∀ (i : Nat) (c : Cell), fs[i]? = some c → RC κ w c (xs.getD i undef)) (h' : ∀ (i : Nat) (c : Cell), cs[i]? = some c → RC κ w c (ys.getD i undef)) :
      RC κ w (.fn f fs cs) (.func f xs ys)
/-- cells, one by one -/
def RCs (κ : K) (w : World) (cs : List Cell) (vs : List Value) : Prop :=
  cs.length = vs.length ∧ ∀ (i : Nat) (c : Cell) (v : Value), cs[i]? = some c → vs[i]? = some v → RC κ w c v
inductive RF (κ : K) (w : World) : FV → Value → Prop where
  | one (c : Cell) (v : Value) (h : RC κ w c v) : RF κ w (.one c) v
  | agg (cs : List Cell) (vs : Array Value) (h : RCs κ w cs vs.toList) : RF κ w (.agg cs) (.agg vs)
inductive RV (κ : K) (w : World) : V → Value → Prop where
  | one (c : Cell) (v : Value) (h : RC κ w c v) : RV κ w (.one c) v
  | agg (cs : List Cell) (vs : Array Value) (h : RCs κ w cs vs.toList) : RV κ w (.agg cs) (.agg vs)
  | tup (xs : List FV) (vs : Array Value) (hn : xs.length = vs.size) (h : ∀ (i : Nat) (x : FV) (v : Value), xs[i]? = some x → vs[i]? = some v → RF κ w x v) : RV κ w (.tup xs) (.tuple vs)
  | undef : RV κ w .undef Go.undef
/-- the block of an object -/
def blockOf (κ : K) (id : Nat) : Ob → Option Nat
  | .var _ | .map _ => κ.at_ id
  | .arr ep _ _ rows => match κ.sl id ep rows.length with
    | some (.slice (some a) _ _) => some a.block
    | _ => none
  | .dead => none
def RO (κ : K) (w : World) (id : Nat) : Ob → Prop
  | .var cells => ∃ b c T, κ.at_ id = some b ∧ w.heap[b]? = some (.cells c T (0, 0)) ∧ RCs κ w cells c.toList ∧ ∀ o, ¬ κ.S b o
  | .arr ep m sz rows => ((∀ r ∈ rows, r.length = sz) ∧ ∀ ep' l v, κ.sl id ep' l = some v → ep' < ep ∨ ep' = ep ∧ l ≤ rows.length) ∧
      ((κ.sl id ep rows.length = some nilSlice ∧ rows = []) ∨
       ∃ b cap c T, κ.sl id ep rows.length = some (.slice (some ⟨b, 0, none⟩) rows.length cap) ∧ w.heap[b]? = some (.cells c T (0, 0)) ∧
         rows.length ≤ cap ∧ cap * sz ≤ c.size ∧
         (∀ (i j : Nat) (row : List D) (d : D), rows[i]? = some row → row[j]? = some d → ∃ v, c[i * sz + j]? = some v ∧ RD κ.S w d v) ∧
         (m = true → ∀ o, ¬ κ.S b o) ∧ (m = false → ∀ o, κ.S b o ↔ o < rows.length * sz))
  | .map es => ∃ b ents clock, κ.at_ id = some b ∧ w.heap[b]? = some (.map ents clock) ∧ ents.size = es.length ∧ (∀ o, ¬ κ.S b o) ∧
      ∀ (i : Nat) (k : Value) (x : FV), es[i]? = some (k, x) → ∃ e, ents[i]? = some e ∧ e.key = k ∧ RF κ w x e.val
  | .dead => True
/-- what is known of package-level variables is so -/
def GlobOk [HasGlob] (κ : K) (w : World) : Prop := ∀ (k : Nat) (ds : List D), HasGlob.g k = some ds → ∀ (j : Nat) (d : D), ds[j]? = some d → κ.S k j ∧ ∃ v, cellAt w k j = some v ∧ RD κ.S w d v
structure RS [HasGlob] (κ : K) (w : World) (σ : St) : Prop where
  obj : ∀ (id : Nat) (o : Ob), σ[id]? = some o → RO κ w id o
  inj : ∀ (id id' : Nat) (o o' : Ob) (b : Nat), σ[id]? = some o → σ[id']? = some o' → blockOf κ id o = some b → blockOf κ id' o' = some b → id = id'
  inner : ∀ (id : Nat) (o : Ob), σ[id]? = some o → o.under (alive σ) = true
  inside : ∀ b o, κ.S b o → b < w.heap.size
  glob : GlobOk κ w
def own (κ : K) (σ : St) (b : Nat) : Prop := ∃ id o, σ[id]? = some o ∧ blockOf κ id o = some b
/-- how memory may have gone on -/
structure Evo (κ : K) (w : World) (σ : St) (κ' : K) (w' : World) (σ' : St) : Prop where
  S : ∀ b o, κ.S b o → κ'.S b o
  keep : ∀ b o, κ.S b o → cellAt w' b o = cellAt w b o
  at_ : ∀ id, alive σ id = true → κ'.at_ id = κ.at_ id
  sl : ∀ id ep len v, alive σ id = true → κ.sl id ep len = some v → κ'.sl id ep len = some v
  live : ∀ id, alive σ id = true → alive σ' id = true
  fresh : ∀ b o, κ'.S b o → κ.S b o ∨ own κ σ b ∨ w.heap.size ≤ b
  frame : ∀ b, b < w.heap.size → ¬ own κ σ b → w'.heap[b]? = w.heap[b]?
  owned : ∀ b, own κ' σ' b → own κ σ b ∨ w.heap.size ≤ b
  size : w.heap.size ≤ w'.heap.size
  os : w'.os = w.os
  tape : w'.tape = w.tape
  output : w'.output = w.output
  len : σ.length ≤ σ'.length
/-! what stays -/
theorem cell_of_heap {w w' : World} {b : Nat} (h : w'.heap[b]? = w.heap[b]?) (o : Nat) : cellAt w' b o = cellAt w b o := by
  simp only [cellAt, World.cell?, h]
theorem RD.mono {S S' : Nat → Nat → Prop} {w w' : World} (hS : ∀ b o, S b o → S' b o) (hk : ∀ b o, S b o → cellAt w' b o = cellAt w b o) {x : D} {v : Value}
    (h : RD S w x v) : RD S' w' x v := by
  induction h with
  | sc v h => exact .sc v h
  | nil a cap => exact .nil a cap
  | list b off cap sz rows vs hcap hrow hcell _ ih =>
    refine .list b off cap sz rows vs hcap hrow (fun i j row d h1 h2 => ?_) ih
    obtain ⟨h3, h4⟩ := hcell i j row d h1 h2
    exact ⟨hS _ _ h3, by rw [hk _ _ h3, h4]⟩
  | ifc1 t d v _ ih => exact .ifc1 t d v ih
  | ifcA t ds vs hn _ ih => exact .ifcA t ds vs hn ih
/-- the facts by which a value's meaning stays -/
structure Stays (κ : K) (w : World) (κ' : K) (w' : World) (L : Nat → Bool) : Prop where
  S : ∀ b o, κ.S b o → κ'.S b o
  keep : ∀ b o, κ.S b o → cellAt w' b o = cellAt w b o
  at_ : ∀ id, L id = true → κ'.at_ id = κ.at_ id
  sl : ∀ id ep len v, L id = true → κ.sl id ep len = some v → κ'.sl id ep len = some v
theorem GlobOk.mono [HasGlob] {κ κ' : K} {w w' : World} (h : GlobOk κ w) (hS : ∀ b o, κ.S b o → κ'.S b o) (hk : ∀ b o, κ.S b o → cellAt w' b o = cellAt w b o) : GlobOk κ' w' := fun k ds hg j d hd => by
  obtain ⟨h1, v, h2, h3⟩ := h k ds hg j d hd
  exact ⟨hS _ _ h1, v, by rw [hk _ _ h1, h2], h3.mono hS hk⟩
theorem globV_sound [HasGlob] {κ : K} {w : World} (h : GlobOk κ w) {k : Nat} {v : V} (hv : globV k = some v) : RV κ w v (.pointer (some ⟨k, 0, none⟩)) ∧ ∀ L, v.under L = true := by
  unfold globV at hv
  split at hv
  · rename_i ds hd
    injection hv with hv; subst hv
    exact ⟨.one _ _ (.rptr ds k 0 fun j d hj => by rw [Nat.zero_add]; exact h k ds hd j d hj), fun L => rfl⟩
  · simp at hv
theorem Evo.stays {κ w σ κ' w' σ'} (h : Evo κ w σ κ' w' σ') : Stays κ w κ' w' (alive σ) := ⟨h.S, h.keep, h.at_, h.sl⟩
theorem under_of_mem {L : Nat → Bool} : ∀ {cs : List Cell}, underAll L cs = true → ∀ (i : Nat) (c : Cell), cs[i]? = some c → c.under L = true
  | [], _, i, c, h => by simp at h
  | x :: r, hb, i, c, h => by
    simp only [underAll, Bool.and_eq_true] at hb
    cases i with
    | zero => simp at h; exact h ▸ hb.1
    | succ i => exact under_of_mem hb.2 i c (by simpa using h)
theorem underAll_of {L : Nat → Bool} : ∀ {cs : List Cell}, (∀ (i : Nat) (c : Cell), cs[i]? = some c → c.under L = true) → underAll L cs = true
  | [], _ => rfl
  | x :: r, h => by
    simp only [underAll, Bool.and_eq_true]
    exact ⟨h 0 x rfl, underAll_of fun i c hc => h (i + 1) c (by simpa using hc)⟩
theorem RC.stays {κ κ' : K} {w w' : World} {L : Nat → Bool} (hs : Stays κ w κ' w' L) {c : Cell} {v : Value} (h : RC κ w c v) (hb : c.under L = true) : RC κ' w' c v := by
  induction h with
  | d x v h => exact .d x v (h.mono hs.S hs.keep)
  | arr id ep len a cap h => exact .arr id ep len a cap (hs.sl _ _ _ _ (by simpa [Cell.under] using hb) h)
  | ptr id off b h => exact .ptr id off b (by rw [hs.at_ id (by simpa [Cell.under] using hb), h])
  | eptr id ep len sz idx off b cap h => exact .eptr id ep len sz idx off b cap (hs.sl _ _ _ _ (by simpa [Cell.under] using hb) h)
  | rptr ds b off h =>
    refine .rptr ds b off fun j d hj => ?_
    obtain ⟨h1, v, h2, h3⟩ := h j d hj
    exact ⟨hs.S _ _ h1, v, by rw [hs.keep _ _ h1, h2], h3.mono hs.S hs.keep⟩
  | map id b h => exact .map id b (by rw [hs.at_ id (by simpa [Cell.under] using hb), h])
  | fn f fs cs xs ys hx hy h h' ih ih' =>
    simp only [Cell.under, Bool.and_eq_true] at hb
    exact .fn f fs cs xs ys hx hy (fun i c hc => ih i c hc (under_of_mem hb.1 i c hc)) (fun i c hc => ih' i c hc (under_of_mem hb.2 i c hc))
theorem RCs.stays {κ κ' : K} {w w' : World} {L : Nat → Bool} (hs : Stays κ w κ' w' L) {cs : List Cell} {vs : List Value} (h : RCs κ w cs vs) (hb : underAll L cs = true) : RCs κ' w' cs vs :=
  ⟨h.1, fun i c v hc hv => (h.2 i c v hc hv).stays hs (under_of_mem hb i c hc)⟩
theorem RF.stays {κ κ' : K} {w w' : World} {L : Nat → Bool} (hs : Stays κ w κ' w' L) {x : FV} {v : Value} (h : RF κ w x v) (hb : x.under L = true) : RF κ' w' x v := by
  cases h with
  | one c v h => exact .one c v (h.stays hs hb)
  | agg cs vs h => exact .agg cs vs (h.stays hs hb)
theorem RV.stays {κ κ' : K} {w w' : World} {L : Nat → Bool} (hs : Stays κ w κ' w' L) {x : V} {v : Value} (h : RV κ w x v) (hb : x.under L = true) : RV κ' w' x v := by
  cases h with
  | one c v h => exact .one c v (h.stays hs hb)
  | agg cs vs h => exact .agg cs vs (h.stays hs hb)
  | tup xs vs hn h =>
    refine .tup xs vs hn fun i x v hx hv => (h i x v hx hv).stays hs ?_
    simp only [V.under, List.all_eq_true] at hb
    exact hb x (List.mem_of_getElem? hx)
  | undef => exact .undef
theorem Evo.refl {κ : K} {w : World} {σ : St} : Evo κ w σ κ w σ :=
  ⟨fun _ _ h => h, fun _ _ _ => rfl, fun _ _ => rfl, fun _ _ _ _ _ h => h, fun _ h => h, fun _ _ h => .inl h, fun _ _ _ => rfl, fun _ h => .inl h, Nat.le_refl _, rfl, rfl, rfl, Nat.le_refl _⟩
theorem Evo.trans {κ w σ κ1 w1 σ1 κ2 w2 σ2} (h : Evo κ w σ κ1 w1 σ1) (k : Evo κ1 w1 σ1 κ2 w2 σ2) : Evo κ w σ κ2 w2 σ2 where
  S b o hs := k.S b o (h.S b o hs)
  keep b o hs := by rw [k.keep b o (h.S b o hs), h.keep b o hs]
  at_ id hid := by rw [k.at_ id (h.live id hid), h.at_ id hid]
  sl id ep len v hid hv := k.sl id ep len v (h.live id hid) (h.sl id ep len v hid hv)
  live id hid := k.live id (h.live id hid)
  fresh b o hs := by
    rcases k.fresh b o hs with h1 | h1 | h1
    · exact h.fresh b o h1
    · rcases h.owned b h1 with h2 | h2
      · exact .inr (.inl h2)
      · exact .inr (.inr h2)
    · exact .inr (.inr (Nat.le_trans h.size h1))
  frame b hb ho := by
    rw [k.frame b (Nat.lt_of_lt_of_le hb h.size) (fun h1 => (h.owned b h1).elim ho (fun h2 => absurd hb (Nat.not_lt.2 h2))), h.frame b hb ho]
  owned b hb := by
    rcases k.owned b hb with h1 | h1
    · exact h.owned b h1
    · exact .inr (Nat.le_trans h.size h1)
  size := Nat.le_trans h.size k.size
  os := by rw [k.os, h.os]
  tape := by rw [k.tape, h.tape]
  output := by rw [k.output, h.output]
  len := Nat.le_trans h.len k.len
end Go.Am
/- The abstract machine: runs of the model's small operations. -/
namespace Go.Am
section
variable {P : Program} {w : World} {α β : Type}
theorem run_pure (a : α) : (pure a : Sem α).run P w = .ok a w := rfl
theorem run_bind {s : Sem α} {f : α → Sem β} {a : α} {w' : World} (h : s.run P w = .ok a w') : (s >>= f).run P w = (f a).run P w' := by
  rw [Sem.run_bind, h]; rfl
theorem pureRun_sound {s : Sem α} {a : α} (h : pureRun P s = some a) : s.run P w = .ok a w := by
  induction s with
  | pure x => simp only [pureRun, Option.some.injEq] at h; subst h; rfl
  | program k ih => simp only [pureRun] at h; simp only [Sem.run]; exact ih _ h
  | _ => simp [pureRun] at h
end
/-! the table of types -/
section
variable {P : Program} {T : Tab} {w : World}
theorem Tab.get_sound (h : T.fits P) {t : Nat} {i : TypeInfo} (hg : T.get t = some i) : P.info? t = some i := by
  induction T with
  | leaf => simp [Tab.get] at hg
  | eqs l t ih => exact ih h.2 hg
  | node l k j r ihl ihr =>
    obtain ⟨h1, h2, h3⟩ := h
    simp only [Tab.get] at hg
    cases hk : Nat.beq k t with
    | true =>
      rw [hk] at hg; simp only [cond_true, Option.some.injEq] at hg
      have : k = t := by simpa using hk
      subst this; subst hg; exact h2
    | false =>
      rw [hk] at hg; simp only [cond_false] at hg
      cases hb : Nat.ble t k with
      | true => rw [hb] at hg; exact ihl h1 hg
      | false => rw [hb] at hg; exact ihr h3 hg
theorem Tab.und_sound (h : T.fits P) {t : Nat} {d : TypeDesc} (hd : T.und t = some d) : P.underlying t = some d := by
  unfold Tab.und at hd
  unfold Program.underlying
  cases hg : T.get t with
  | none => rw [hg] at hd; simp at hd
  | some i =>
    rw [hg] at hd
    rw [T.get_sound h hg]
    obtain ⟨desc, str, size, bytes, hp, al, fal, zero, comp, ms⟩ := i
    cases desc <;> simp only at hd ⊢ <;> try exact hd
    rename_i nm u
    cases hu : T.get u with
    | none => rw [hu] at hd; simp at hd
    | some i => rw [hu] at hd; rw [T.get_sound h hu]; exact hd
theorem run_program : (program : Sem Program).run P w = .ok P w := rfl
theorem run_typeInfo (h : T.fits P) {t : Nat} {i : TypeInfo} (hg : T.get t = some i) : (typeInfo t).run P w = .ok i w := by
  unfold typeInfo
  rw [run_bind run_program, T.get_sound h hg]; rfl
theorem run_underlying (h : T.fits P) {t : Nat} {d : TypeDesc} (hd : T.und t = some d) : (underlying t).run P w = .ok d w := by
  unfold underlying
  rw [run_bind run_program, T.und_sound h hd]; rfl
theorem run_sizeOf (h : T.fits P) {t n : Nat} (hn : T.size t = some n) : (sizeOf t).run P w = .ok n w := by
  unfold Tab.size at hn
  cases hg : T.get t with
  | none => rw [hg] at hn; simp at hn
  | some i =>
    rw [hg] at hn; simp only [Option.map_some, Option.some.injEq] at hn
    unfold sizeOf
    rw [run_bind (run_typeInfo h hg)]; subst hn; rfl
theorem run_zeroValue (h : T.fits P) {t : Nat} {z : Value} (hz : T.zero t = some z) : (zeroValue t).run P w = .ok z w := by
  unfold Tab.zero at hz
  cases hg : T.get t with
  | none => rw [hg] at hz; simp at hz
  | some i =>
    rw [hg] at hz; simp only [Option.bind_some] at hz
    unfold zeroValue
    rw [run_bind (run_typeInfo h hg), hz]; rfl
theorem run_isAgg (h : T.fits P) {t : Nat} {g : Bool} (hg : T.agg t = some g) : (isAgg t).run P w = .ok g w := by
  unfold Tab.agg at hg
  cases hd : T.und t with
  | none => rw [hd] at hg; simp at hg
  | some d =>
    rw [hd] at hg
    unfold isAgg
    rw [run_bind (run_underlying h hd)]
    cases d <;> simp at hg <;> subst hg <;> rfl
end
/-! cells -/
section
variable {P : Program} {w : World}
theorem run_load {a : Addr} {v : Value} (h : w.cell? a = some v) : (load a).run P w = .ok v w := by
  simp only [load, Sem.run, h]
theorem addr_add (b o n : Nat) : (⟨b, o, none⟩ : Addr).add n = ⟨b, o + n, none⟩ := by
  unfold Addr.add; split
  · rename_i h; subst h; rfl
  · rfl
theorem run_loadCellsFrom (b o : Nat) : ∀ (n i : Nat) (acc : Array Value) (vs : List Value), vs.length = n →
    (∀ (j : Nat) (v : Value), vs[j]? = some v → cellAt w b (o + i + j) = some v) →
    (loadCellsFrom ⟨b, o, none⟩ i n acc).run P w = .ok (acc ++ vs.toArray) w
  | 0, i, acc, vs, hl, _ => by
    have : vs = [] := List.length_eq_zero_iff.1 hl
    subst this; simp [loadCellsFrom, pure]
  | n + 1, i, acc, v :: vs, hl, h => by
    unfold loadCellsFrom
    rw [addr_add]
    have h0 : w.cell? ⟨b, o + i, none⟩ = some v := by have := h 0 v rfl; simpa [cellAt] using this
    rw [run_bind (run_load h0), run_loadCellsFrom b o n (i + 1) (acc.push v) vs (by simpa using hl) (fun j u hj => by
      have := h (j + 1) u (by simpa using hj)
      rw [show o + (i + 1) + j = o + i + (j + 1) from by omega]; exact this)]
    simp
  | n + 1, i, acc, [], hl, h => by simp at hl
theorem run_loadCells (b o n : Nat) (vs : List Value) (hl : vs.length = n) (h : ∀ (j : Nat) (v : Value), vs[j]? = some v → cellAt w b (o + j) = some v) :
    (loadCells ⟨b, o, none⟩ n).run P w = .ok vs.toArray w := by
  unfold loadCells
  rw [run_loadCellsFrom b o n 0 #[] vs hl (by simpa using h)]; simp
theorem run_store {a : Addr} {v u : Value} (h : w.cell? a = some u) (hf : w.frozen? a = false) (hv : ∀ vs, v ≠ .agg vs) (hv' : ∀ vs, v ≠ .tuple vs) :
    (store a v).run P w = .ok () (w.setCell a v) := by
  unfold store
  cases v <;> first
    | exact absurd rfl (hv _)
    | exact absurd rfl (hv' _)
    | simp [Sem.run, h, hf]
end
end Go.Am
