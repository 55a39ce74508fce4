/- The kinds of data of the program, as Lean has them, and how they stand in memory. -/
import Derived.Test.YtcplpllbinilmaaBase
set_option linter.unusedVariables false
set_option linter.unusedSimpArgs false
namespace Go.Proofs.Ytcplpllbinilmaa
open Go Go.Am Go.Proofs
def strow (s : ByteArray) : List D := [.sc (.string s)]
/-- an action -/
structure Act where
  kind : Int
  data : Int
  deriving DecidableEq
def Act.row (x : Act) : List D := [.sc (.int .i64 x.kind), .sc (.int .i64 x.data)]
def Act.cells (x : Act) : List Cell := [.d (.sc (.int .i64 x.kind)), .d (.sc (.int .i64 x.data))]
/-- an expression -/
inductive Ex where
  | mk (kind : Int) (op name : ByteArray) (num : Int) (kids : List Ex)
def Ex.kind : Ex → Int | .mk k _ _ _ _ => k
def Ex.op : Ex → ByteArray | .mk _ o _ _ _ => o
def Ex.name : Ex → ByteArray | .mk _ _ n _ _ => n
def Ex.num : Ex → Int | .mk _ _ _ n _ => n
def Ex.kids : Ex → List Ex | .mk _ _ _ _ l => l
mutual
def Ex.row : Ex → List D
  | .mk k o n u l => [.sc (.int .i64 k), .sc (.string o), .sc (.string n), .sc (.int .u64 u), .list (Ex.rows l)]
def Ex.rows : List Ex → List (List D)
  | [] => []
  | x :: l => Ex.row x :: Ex.rows l
end
theorem Ex.rows_eq : ∀ l : List Ex, Ex.rows l = l.map Ex.row
  | [] => rfl
  | x :: l => by rw [Ex.rows, Ex.rows_eq l]; rfl
/-- a rule -/
structure Rule where
  call : ByteArray
  params : List ByteArray
  cond : List Ex
def Rule.row (x : Rule) : List D := [.sc (.string x.call), .list (x.params.map strow), .list (x.cond.map Ex.row)]
/-- a part -/
structure Part where
  use : ByteArray
  act : Act
  rules : List Rule
def Part.row (x : Part) : List D := [.sc (.string x.use), .sc (.int .i64 x.act.kind), .sc (.int .i64 x.act.data), .list (x.rules.map Rule.row)]
/-- a policy -/
structure Pol where
  name : ByteArray
  parts : List Part
def Pol.row (x : Pol) : List D := [.sc (.string x.name), .list (x.parts.map Part.row)]
mutual
/-- lists are no longer than memory allows, all the way down -/
def Ex.ok : Ex → Prop
  | .mk _ _ _ _ l => l.length * 72 ≤ 2 ^ 47 ∧ Ex.oks l
def Ex.oks : List Ex → Prop
  | [] => True
  | x :: l => Ex.ok x ∧ Ex.oks l
def Ex.size : Ex → Nat
  | .mk _ _ _ _ l => Ex.sizes l + 1
def Ex.sizes : List Ex → Nat
  | [] => 0
  | x :: l => Ex.size x + Ex.sizes l
end
theorem Ex.oks_mem : ∀ {l : List Ex} {x : Ex}, Ex.oks l → x ∈ l → x.ok
  | [], _, _, h => by simp at h
  | y :: l, x, h, hm => by
    rcases List.mem_cons.1 hm with rfl | hm
    · exact h.1
    · exact Ex.oks_mem h.2 hm
theorem Ex.size_mem : ∀ {l : List Ex} {x : Ex}, x ∈ l → x.size ≤ Ex.sizes l
  | [], _, h => by simp at h
  | y :: l, x, hm => by
    rw [Ex.sizes]
    rcases List.mem_cons.1 hm with rfl | hm
    · omega
    · have := Ex.size_mem hm; omega
/-- two lists, pair by pair -/
def pw {α : Type} (f : α → α → Bool) : List α → List α → Bool
  | [], [] => true
  | x :: l, y :: m => f x y && pw f l m
  | _, _ => false
theorem pw_len {α : Type} {f : α → α → Bool} : ∀ {l m : List α}, l.length ≠ m.length → pw f l m = false
  | [], [], h => absurd rfl h
  | [], _ :: _, _ => rfl
  | _ :: _, [], _ => rfl
  | x :: l, y :: m, h => by simp only [pw]; rw [pw_len (by simpa using h)]; simp
end Go.Proofs.Ytcplpllbinilmaa
