/- A part of a proof: functions of the program walked over the abstract machine, and what they compute. -/
import Derived.Test.YtjjhckmnnaafkaaDoorPAmTab
set_option linter.unusedVariables false
set_option linter.unusedSimpArgs false
namespace Go.Proofs.YtjjhckmnnaafkaaDoor
open Go Go.Am Go.Proofs
/-- an instruction -/
structure Ins where
  code : Int
  jt : Int
  jf : Int
  k : Int
  deriving DecidableEq
def Ins.row (x : Ins) : List D := [.sc (.int .i64 x.code), .sc (.int .i64 x.jt), .sc (.int .i64 x.jf), .sc (.int .u32 x.k)]
def Ins.cells (x : Ins) : List Cell := [.d (.sc (.int .i64 x.code)), .d (.sc (.int .i64 x.jt)), .d (.sc (.int .i64 x.jf)), .d (.sc (.int .u32 x.k))]
/-- a list of data -/
def lst {α : Type} (f : α → List D) (l : List α) : V := .one (.d (.list (l.map f)))
def str (s : ByteArray) : V := .one (.d (.sc (.string s)))
/-- the lowest byte of a number -/
def u8 (n : Int) : UInt8 := UInt8.ofNat (n % 256).toNat
theorem wrap_ok {n : Int} (h0 : 0 ≤ n) (h1 : n < 9223372036854775808) : IntKind.i64.wrap n = n := by
  simp [IntKind.wrap, IntKind.bits, IntKind.signed]; omega
/-- all steps at once: what the ways leave to be shown, one behind the other -/
structure Wy (p : Prop) : Prop where
  h : p
inductive Wn : Prop where
  | mk
inductive Wl : Prop where
  | mk
theorem wy1 {a b : Prop} (h1 : a) (h2 : b) : Wy a ∧ b := ⟨⟨h1⟩, h2⟩
theorem wy2 {a b : Prop} (q : Wy (Wy a ∧ b)) : a := q.h.1.h
theorem wy3 {a b : Prop} (q : Wy (Wy a ∧ b)) : Wy b := ⟨q.h.2⟩
theorem wy4 (_ : Wy Wl) : Wn := .mk
theorem wz : True := trivial
theorem wy5 {a b : Bool} (_ : a = b) : True := trivial
theorem wc {a b : Prop} (h1 : a) (h2 : b) : a ∧ b := ⟨h1, h2⟩
theorem ST {P Q Z : Prop} (z : Z) (q : Q) (h : Z → Wy Q → P ∧ Wn := by
  intro z qq
  refine And.intro ?_ ?_
  repeat' (first | ((first | refine C_r ?_ | refine C0_r ?_ | refine O_r ?_ | refine R_r ?_); (conv => whnf); first | (refine ⟨fun hb => ?_, fun hb => ?_⟩ <;> try exact no_way) | refine A_o ?_ | refine B_o ?_ | refine C_o ?_ | refine R_o ?_ | refine fR ?_ | refine fRk ?_ | refine F_o ?_) | (first | refine C_l (z.1 ..) ?_ | refine C_l (z.2.1 ..) ?_ | refine C_l (z.2.2.1 ..) ?_ | refine C_l (z.2.2.2.1 ..) ?_ | refine C_l (z.2.2.2.2.1 ..) ?_ | refine C_l (z.2.2.2.2.2.1 ..) ?_ | refine C_l (z.2.2.2.2.2.2.1 ..) ?_ | refine C_l (z.2.2.2.2.2.2.2.1 ..) ?_ | refine C_l (z.2.2.2.2.2.2.2.2.1 ..) ?_ | refine C_l (z.2.2.2.2.2.2.2.2.2.1 ..) ?_ | refine C_l (z.2.2.2.2.2.2.2.2.2.2.1 ..) ?_ | refine C_l (z.2.2.2.2.2.2.2.2.2.2.2.1 ..) ?_) | refine SA_l ?_ | refine V_l ?_ | refine L_l ?_ | refine Q_l ?_ | refine X_l ?_ | refine Xa_l ?_ | refine Xs_l ?_ | refine K_l ?_ | refine Ka_l ?_ | refine Lk_l ?_ | refine Up_l ?_ | refine Del_l ?_ | refine St_l ?_ | refine LU_l ?_ | refine Xw_l ?_ | refine Le_l ?_ | refine Se_l ?_ | refine M_l ?_ | refine A_l ?_ | refine A0_l ?_ | refine A1_l ?_ | refine Mk_l ?_ | refine Kz_l ?_ | refine W_l ?_ | fail)
  repeat (((repeat (revert hb; have hx := qq; clear hx)); first | exact wy4 qq | (apply wy2 qq; rotate_left)); all_goals (try have qq := wy3 qq))) : P := (h z ⟨q⟩).1
theorem STD {P Q Z : Prop} (z : Z) (q : Q) (h : Z → Wy Q → P ∧ Wn := by
  intro z qq
  refine And.intro ?_ ?_
  repeat' (first | ((first | refine C_r ?_ | refine C0_r ?_ | refine O_r ?_ | refine R_r ?_); (conv => whnf); first | (refine ⟨fun hb => ?_, fun hb => ?_⟩ <;> try exact no_way) | refine A_o ?_ | refine B_o ?_ | refine C_o ?_ | refine R_o ?_ | refine fR ?_ | refine fRk ?_ | refine F_o ?_) | (first | refine C_l (z.1 ..) ?_ | refine C_l (z.2.1 ..) ?_ | refine C_l (z.2.2.1 ..) ?_ | refine C_l (z.2.2.2.1 ..) ?_ | refine C_l (z.2.2.2.2.1 ..) ?_ | refine C_l (z.2.2.2.2.2.1 ..) ?_ | refine C_l (z.2.2.2.2.2.2.1 ..) ?_ | refine C_l (z.2.2.2.2.2.2.2.1 ..) ?_ | refine C_l (z.2.2.2.2.2.2.2.2.1 ..) ?_ | refine C_l (z.2.2.2.2.2.2.2.2.2.1 ..) ?_ | refine C_l (z.2.2.2.2.2.2.2.2.2.2.1 ..) ?_ | refine C_l (z.2.2.2.2.2.2.2.2.2.2.2.1 ..) ?_) | refine SA_l ?_ | refine V_l ?_ | refine L_l ?_ | refine Q_l ?_ | refine X_l ?_ | refine Xa_l ?_ | refine Xs_l ?_ | refine K_l ?_ | refine Ka_l ?_ | refine Lk_l ?_ | refine Up_l ?_ | refine Del_l ?_ | refine St_l ?_ | refine LU_l ?_ | refine Xw_l ?_ | refine Le_l ?_ | refine Se_l ?_ | refine M_l ?_ | refine A_l ?_ | refine A0_l ?_ | refine A1_l ?_ | refine Mk_l ?_ | refine Kz_l ?_ | refine W_l ?_ | (first | refine C_d (z.1 ..) ?_ | refine C_d (z.2.1 ..) ?_ | refine C_d (z.2.2.1 ..) ?_ | refine C_d (z.2.2.2.1 ..) ?_ | refine C_d (z.2.2.2.2.1 ..) ?_ | refine C_d (z.2.2.2.2.2.1 ..) ?_ | refine C_d (z.2.2.2.2.2.2.1 ..) ?_ | refine C_d (z.2.2.2.2.2.2.2.1 ..) ?_ | refine C_d (z.2.2.2.2.2.2.2.2.1 ..) ?_ | refine C_d (z.2.2.2.2.2.2.2.2.2.1 ..) ?_ | refine C_d (z.2.2.2.2.2.2.2.2.2.2.1 ..) ?_ | refine C_d (z.2.2.2.2.2.2.2.2.2.2.2.1 ..) ?_) | refine SA_d ?_ | refine V_d ?_ | refine L_d ?_ | refine Q_d ?_ | refine X_d ?_ | refine Xs_d ?_ | refine K_d ?_ | refine Ka_d ?_ | refine Lk_d ?_ | refine Up_d ?_ | refine A_d ?_ | refine A0_d ?_ | refine St_d ?_ | refine LU_d ?_ | refine Xw_d ?_ | refine Le_d ?_ | refine Se_d ?_ | refine M_d ?_ | refine Mk_d ?_ | refine N_d ?_ | refine Kz_d ?_ | refine W_d ?_ | fail)
  repeat (((repeat (revert hb; have hx := qq; clear hx)); first | exact wy4 qq | (apply wy2 qq; rotate_left)); all_goals (try have qq := wy3 qq))) : P := (h z ⟨q⟩).1
theorem SBD {P Q Z Y : Prop} (z : Z) (y : Y) (q : Q) (h : Z → Y → Wy Q → P ∧ Wn := by
  intro z y qq
  refine And.intro ?_ ?_
  repeat' (first | ((first | refine C_r ?_ | refine C0_r ?_ | refine O_r ?_ | refine R_r ?_); (conv => whnf); first | (refine ⟨fun hb => ?_, fun hb => ?_⟩ <;> try exact no_way) | refine A_o ?_ | refine B_o ?_ | refine C_o ?_ | refine R_o ?_ | refine fR ?_ | refine fRk ?_ | refine F_o ?_) | (first | ((refine B_l (y.1 ..) (fun hb => ?_) fun hb => ?_) <;> try exact no_way) | ((refine B_l (y.2.1 ..) (fun hb => ?_) fun hb => ?_) <;> try exact no_way) | ((refine B_l (y.2.2.1 ..) (fun hb => ?_) fun hb => ?_) <;> try exact no_way) | ((refine B_l (y.2.2.2.1 ..) (fun hb => ?_) fun hb => ?_) <;> try exact no_way) | ((refine B_l (y.2.2.2.2.1 ..) (fun hb => ?_) fun hb => ?_) <;> try exact no_way) | ((refine B_l (y.2.2.2.2.2.1 ..) (fun hb => ?_) fun hb => ?_) <;> try exact no_way)) | (first | refine C_l (z.1 ..) ?_ | refine C_l (z.2.1 ..) ?_ | refine C_l (z.2.2.1 ..) ?_ | refine C_l (z.2.2.2.1 ..) ?_ | refine C_l (z.2.2.2.2.1 ..) ?_ | refine C_l (z.2.2.2.2.2.1 ..) ?_ | refine C_l (z.2.2.2.2.2.2.1 ..) ?_ | refine C_l (z.2.2.2.2.2.2.2.1 ..) ?_ | refine C_l (z.2.2.2.2.2.2.2.2.1 ..) ?_ | refine C_l (z.2.2.2.2.2.2.2.2.2.1 ..) ?_ | refine C_l (z.2.2.2.2.2.2.2.2.2.2.1 ..) ?_ | refine C_l (z.2.2.2.2.2.2.2.2.2.2.2.1 ..) ?_) | refine SA_l ?_ | refine V_l ?_ | refine L_l ?_ | refine Q_l ?_ | refine X_l ?_ | refine Xa_l ?_ | refine Xs_l ?_ | refine K_l ?_ | refine Ka_l ?_ | refine Lk_l ?_ | refine Up_l ?_ | refine Del_l ?_ | refine St_l ?_ | refine LU_l ?_ | refine Xw_l ?_ | refine Le_l ?_ | refine Se_l ?_ | refine M_l ?_ | refine A_l ?_ | refine A0_l ?_ | refine A1_l ?_ | refine Mk_l ?_ | refine Kz_l ?_ | refine W_l ?_ | (first | ((refine B_d (y.1 ..) (fun hb => ?_) fun hb => ?_) <;> try exact no_way) | ((refine B_d (y.2.1 ..) (fun hb => ?_) fun hb => ?_) <;> try exact no_way) | ((refine B_d (y.2.2.1 ..) (fun hb => ?_) fun hb => ?_) <;> try exact no_way) | ((refine B_d (y.2.2.2.1 ..) (fun hb => ?_) fun hb => ?_) <;> try exact no_way) | ((refine B_d (y.2.2.2.2.1 ..) (fun hb => ?_) fun hb => ?_) <;> try exact no_way) | ((refine B_d (y.2.2.2.2.2.1 ..) (fun hb => ?_) fun hb => ?_) <;> try exact no_way)) | (first | refine C_d (z.1 ..) ?_ | refine C_d (z.2.1 ..) ?_ | refine C_d (z.2.2.1 ..) ?_ | refine C_d (z.2.2.2.1 ..) ?_ | refine C_d (z.2.2.2.2.1 ..) ?_ | refine C_d (z.2.2.2.2.2.1 ..) ?_ | refine C_d (z.2.2.2.2.2.2.1 ..) ?_ | refine C_d (z.2.2.2.2.2.2.2.1 ..) ?_ | refine C_d (z.2.2.2.2.2.2.2.2.1 ..) ?_ | refine C_d (z.2.2.2.2.2.2.2.2.2.1 ..) ?_ | refine C_d (z.2.2.2.2.2.2.2.2.2.2.1 ..) ?_ | refine C_d (z.2.2.2.2.2.2.2.2.2.2.2.1 ..) ?_) | refine SA_d ?_ | refine V_d ?_ | refine L_d ?_ | refine Q_d ?_ | refine X_d ?_ | refine Xs_d ?_ | refine K_d ?_ | refine Ka_d ?_ | refine Lk_d ?_ | refine Up_d ?_ | refine A_d ?_ | refine A0_d ?_ | refine St_d ?_ | refine LU_d ?_ | refine Xw_d ?_ | refine Le_d ?_ | refine Se_d ?_ | refine M_d ?_ | refine Mk_d ?_ | refine N_d ?_ | refine Kz_d ?_ | refine W_d ?_ | fail)
  repeat (((repeat (revert hb; have hx := qq; clear hx)); first | exact wy4 qq | (apply wy2 qq; rotate_left)); all_goals (try have qq := wy3 qq))) : P := (h z y ⟨q⟩).1
end Go.Proofs.YtjjhckmnnaafkaaDoor
namespace Go.Proofs.YtjjhckmnnaafkaaDoor
open Go Go.Am Go.Proofs
def strow (s : ByteArray) : List D := [.sc (.string s)]
/-- an action -/
structure Act where
  kind : Int
  data : Int
  deriving DecidableEq
def Act.row (x : Act) : List D := [.sc (.int .i64 x.kind), .sc (.int .i64 x.data)]
def Act.cells (x : Act) : List Cell := [.d (.sc (.int .i64 x.kind)), .d (.sc (.int .i64 x.data))]
/-- an expression -/
inductive Ex where
  | mk (kind : Int) (op name : ByteArray) (num : Int) (kids : List Ex)
def Ex.kind : Ex → Int | .mk k _ _ _ _ => k
def Ex.op : Ex → ByteArray | .mk _ o _ _ _ => o
def Ex.name : Ex → ByteArray | .mk _ _ n _ _ => n
def Ex.num : Ex → Int | .mk _ _ _ n _ => n
def Ex.kids : Ex → List Ex | .mk _ _ _ _ l => l
mutual
def Ex.row : Ex → List D
  | .mk k o n u l => [.sc (.int .i64 k), .sc (.string o), .sc (.string n), .sc (.int .u64 u), .list (Ex.rows l)]
def Ex.rows : List Ex → List (List D)
  | [] => []
  | x :: l => Ex.row x :: Ex.rows l
end
theorem Ex.rows_eq : ∀ l : List Ex, Ex.rows l = l.map Ex.row
  | [] => rfl
  | x :: l => by rw [Ex.rows, Ex.rows_eq l]; rfl
/-- a rule -/
structure Rule where
  call : ByteArray
  params : List ByteArray
  cond : List Ex
def Rule.row (x : Rule) : List D := [.sc (.string x.call), .list (x.params.map strow), .list (x.cond.map Ex.row)]
/-- a part -/
structure Part where
  use : ByteArray
  act : Act
  rules : List Rule
def Part.row (x : Part) : List D := [.sc (.string x.use), .sc (.int .i64 x.act.kind), .sc (.int .i64 x.act.data), .list (x.rules.map Rule.row)]
/-- a policy -/
structure Pol where
  name : ByteArray
  parts : List Part
def Pol.row (x : Pol) : List D := [.sc (.string x.name), .list (x.parts.map Part.row)]
mutual
/-- lists are no longer than memory allows, all the way down -/
def Ex.ok : Ex → Prop
  | .mk _ _ _ _ l => l.length * 72 ≤ 2 ^ 47 ∧ Ex.oks l
def Ex.oks : List Ex → Prop
  | [] => True
  | x :: l => Ex.ok x ∧ Ex.oks l
def Ex.size : Ex → Nat
  | .mk _ _ _ _ l => Ex.sizes l + 1
def Ex.sizes : List Ex → Nat
  | [] => 0
  | x :: l => Ex.size x + Ex.sizes l
end
theorem Ex.oks_mem : ∀ {l : List Ex} {x : Ex}, Ex.oks l → x ∈ l → x.ok
  | [], _, _, h => by simp at h
  | y :: l, x, h, hm => by
    rcases List.mem_cons.1 hm with rfl | hm
    · exact h.1
    · exact Ex.oks_mem h.2 hm
theorem Ex.size_mem : ∀ {l : List Ex} {x : Ex}, x ∈ l → x.size ≤ Ex.sizes l
  | [], _, h => by simp at h
  | y :: l, x, hm => by
    rw [Ex.sizes]
    rcases List.mem_cons.1 hm with rfl | hm
    · omega
    · have := Ex.size_mem hm; omega
/-- two lists, pair by pair -/
def pw {α : Type} (f : α → α → Bool) : List α → List α → Bool
  | [], [] => true
  | x :: l, y :: m => f x y && pw f l m
  | _, _ => false
theorem pw_len {α : Type} {f : α → α → Bool} : ∀ {l m : List α}, l.length ≠ m.length → pw f l m = false
  | [], [], h => absurd rfl h
  | [], _ :: _, _ => rfl
  | _ :: _, [], _ => rfl
  | x :: l, y :: m, h => by simp only [pw]; rw [pw_len (by simpa using h)]; simp
end Go.Proofs.YtjjhckmnnaafkaaDoor
namespace Go.Proofs.YtjjhckmnnaafkaaDoor
open Go Go.Am Go.Proofs
attribute [local irreducible] W WL DL WO RoundEnd
set_option maxRecDepth 10000
set_option maxHeartbeats 4000000
def letterF (b : UInt8) : Bool := b.toNat == 95 || ((decide (b.toNat ≥ 97) && decide (b.toNat ≤ 122)) || (decide (b.toNat ≥ 65) && decide (b.toNat ≤ 90)))
def digitF (b : UInt8) : Bool := decide (b.toNat ≥ 48) && decide (b.toNat ≤ 57)
def innerF (b : UInt8) : Bool := letterF b || digitF b
theorem letterR (b : UInt8) : Comp Tryd.prog 63 [int .u8 b.toNat] (bool (letterF b)) := by
  refine Spec.body (C := cx [] 21) fits (fn := Tryd.f63) Tryd.func63 rfl (by decide) (by decide) (gI ?_)
  refine ST wz ?_ <;> (repeat' (first | exact Wl.mk | refine wy1 ?_ ?_)) <;> repeat (intro hb; have hx := wy5 hb; clear hx)
  all_goals (refine ⟨?_, rfl⟩)
  all_goals (refine congrArg Am.bool ?_)
  all_goals (simp only [beq_iff_eq, beq_eq_false_iff_ne, decide_eq_true_eq, decide_eq_false_iff_not, ge_iff_le] at *)
  all_goals (simp [letterF]; omega)
theorem digitR (b : UInt8) : Comp Tryd.prog 83 [int .u8 b.toNat] (bool (digitF b)) := by
  refine Spec.body (C := cx [] 9) fits (fn := Tryd.f83) Tryd.func83 rfl (by decide) (by decide) (gI ?_)
  refine ST wz ?_ <;> (repeat' (first | exact Wl.mk | refine wy1 ?_ ?_)) <;> repeat (intro hb; have hx := wy5 hb; clear hx)
  all_goals (refine ⟨?_, rfl⟩)
  all_goals (refine congrArg Am.bool ?_)
  all_goals (simp only [beq_iff_eq, beq_eq_false_iff_ne, decide_eq_true_eq, decide_eq_false_iff_not, ge_iff_le] at *)
  all_goals (simp [digitF]; omega)
theorem innerR (b : UInt8) : Comp Tryd.prog 65 [int .u8 b.toNat] (bool (innerF b)) := by
  have c1 := letterR b
  have c2 := digitR b
  refine Spec.body (C := cx [] 9) fits (fn := Tryd.f65) Tryd.func65 rfl (by decide) (by decide) (gI ?_)
  repeat' (first | ((first | refine C_r ?_ | refine C0_r ?_ | refine O_r ?_ | refine R_r ?_); (conv => whnf); first | (refine ⟨fun hb => ?_, fun hb => ?_⟩ <;> try exact no_way) | refine A_o ?_ | refine B_o ?_ | refine C_o ?_ | refine R_o ?_ | refine fR ?_ | refine fRk ?_ | refine F_o ?_) | refine B_l (c1) (fun h1 => ?_) fun h1 => ?_ | refine B_l (c2) (fun h2 => ?_) fun h2 => ?_ | refine SA_l ?_ | refine V_l ?_ | refine L_l ?_ | refine Q_l ?_ | refine X_l ?_ | refine Xa_l ?_ | refine Xs_l ?_ | refine K_l ?_ | refine Ka_l ?_ | refine Lk_l ?_ | refine Up_l ?_ | refine Del_l ?_ | refine St_l ?_ | refine LU_l ?_ | refine Xw_l ?_ | refine Le_l ?_ | refine Se_l ?_ | refine M_l ?_ | refine A_l ?_ | refine A0_l ?_ | refine A1_l ?_ | refine Mk_l ?_ | refine Kz_l ?_ | refine W_l ?_ | fail)
  · exact ⟨by simp only [innerF, h1]; rfl, rfl⟩
  · exact ⟨by simp only [innerF, h1, h2]; rfl, rfl⟩
  · exact ⟨by simp only [innerF, h1, h2]; rfl, rfl⟩
/-- how many bytes are so, from the first on -/
def runF (p : UInt8 → Bool) : List UInt8 → Int → Int
  | [], n => n
  | x :: r, n => if p x then runF p r (n + 1) else n
theorem runR (g : FuncId) (p : UInt8 → Bool) (hg : ∀ b : UInt8, Comp Tryd.prog g [int .u8 b.toNat] (bool (p b))) (s : ByteArray) (hs : s.size < 2 ^ 60) : Comp Tryd.prog 64 [str s, .one (.fn (.func g) [] [])] (int .i64 (runF p s.data.toList 0)) := by
  generalize hfb : runF p s.data.toList 0 = fb
  refine Spec.body (C := cx [] 20) fits (fn := Tryd.f64) Tryd.func64 rfl (by decide) (by decide) (gI ?_)
  refine ST wz ?_ <;> (repeat' (first | exact Wl.mk | refine wy1 ?_ ?_)) <;> repeat (intro hb; have hx := wy5 hb; clear hx)
  refine wLoop [0, 1, 5] 0 (s.data.toList.length + 1) ?_
  refine (fun key => key s.data.toList [] _ rfl rfl hfb.symm :
    (∀ (rest done : List UInt8) (j : Int), s.data.toList = done ++ rest → j = done.length → fb = runF p rest j →
    WR2 _ _ _ _ _ (rest.length + 1) [(0, str s), (1, .one (.fn (.func g) [] [])), (5, int .i64 j)] []) → _) ?_
  have hsz : s.size = s.data.toList.length := rfl
  intro rest
  induction rest with
  | nil =>
    intro done j h1 hj hr
    have hlen : s.data.toList.length = done.length := by rw [h1]; simp
    refine wR (gI ?_)
    refine ST wz ?_ <;> (repeat' (first | exact Wl.mk | refine wy1 ?_ ?_)) <;> repeat (intro hb; have hx := wy5 hb; clear hx)
    exact ⟨by rw [hr]; rfl, rfl⟩
  | cons x rest ih =>
    intro done j h1 hj hr
    have hlen : s.data.toList.length = done.length + (rest.length + 1) := by rw [h1]; simp
    have c1 := hg x
    refine wR (gI ?_)
    repeat' (first | ((first | refine C_r ?_ | refine C0_r ?_ | refine O_r ?_ | refine R_r ?_); (conv => whnf); first | (refine ⟨fun hb => ?_, fun hb => ?_⟩ <;> try exact no_way) | refine A_o ?_ | refine B_o ?_ | refine C_o ?_ | refine R_o ?_ | refine fR ?_ | refine fRk ?_ | refine F_o ?_) | refine B_l (c1) (fun h2 => ?_) fun h2 => ?_ | refine SA_l ?_ | refine V_l ?_ | refine L_l ?_ | refine Q_l ?_ | refine X_l ?_ | refine Xa_l ?_ | refine Xs_l ?_ | refine K_l ?_ | refine Ka_l ?_ | refine Lk_l ?_ | refine Up_l ?_ | refine Del_l ?_ | refine St_l ?_ | refine LU_l ?_ | refine Xw_l ?_ | refine Le_l ?_ | refine Se_l ?_ | refine M_l ?_ | refine A_l ?_ | refine A0_l ?_ | refine A1_l ?_ | refine Mk_l ?_ | refine Kz_l ?_ | refine W_l ?_ | fail)
    · refine rE (ih (done ++ [x]) _ (by rw [h1]; simp) ?_ ?_)
      · rw [wrap_ok (by omega) (by omega)]; simp [hj]
      · rw [hr, wrap_ok (by omega) (by omega)]; simp only [runF, h2]; rfl
    · exact ⟨by rw [hr]; simp only [runF, h2]; rfl, rfl⟩
def wordF (s : ByteArray) : Bool :=
  match s.data.toList with
  | [] => false
  | b :: r => letterF b && runF innerF (b :: r) 0 == (r.length + 1 : Int)
theorem wordR (s : ByteArray) (hs : s.size < 2 ^ 60) : Comp Tryd.prog 40 [str s] (bool (wordF s)) := by
  have c2 := runR 65 innerF innerR s hs
  have hsz : s.size = s.data.toList.length := rfl
  cases hd : s.data.toList with
  | nil =>
    have he : s = ⟨#[]⟩ := by
      obtain ⟨⟨l⟩⟩ := s
      simp at hd; subst hd; rfl
    subst he
    refine Spec.body (C := cx [] 17) fits (fn := Tryd.f40) Tryd.func40 rfl (by decide) (by decide) (gI ?_)
    refine ST wz ?_ <;> (repeat' (first | exact Wl.mk | refine wy1 ?_ ?_)) <;> repeat (intro hb; have hx := wy5 hb; clear hx)
    exact ⟨rfl, rfl⟩
  | cons b r =>
    have c1 := letterR b
    have h0 : s.data.toList[(0 : Int).toNat]? = some b := by rw [hd]; rfl
    have hne : s ≠ ⟨#[]⟩ := by rintro rfl; simp at hd
    have e : wordF s = (letterF b && runF innerF s.data.toList 0 == (s.size : Int)) := by rw [hsz]; simp only [wordF, hd]; simp
    refine Spec.body (C := cx [] 17) fits (fn := Tryd.f40) Tryd.func40 rfl (by decide) (by decide) (gI ?_)
    repeat' (first | ((first | refine C_r ?_ | refine C0_r ?_ | refine O_r ?_ | refine R_r ?_); (conv => whnf); first | (refine ⟨fun hb => ?_, fun hb => ?_⟩ <;> try exact no_way) | refine A_o ?_ | refine B_o ?_ | refine C_o ?_ | refine R_o ?_ | refine fR ?_ | refine fRk ?_ | refine F_o ?_) | refine B_l (c1) (fun h1 => ?_) fun h1 => ?_ | refine C_l (c2) ?_ | refine SA_l ?_ | refine V_l ?_ | refine L_l ?_ | refine Q_l ?_ | refine X_l ?_ | refine Xa_l ?_ | refine Xs_l ?_ | refine K_l ?_ | refine Ka_l ?_ | refine Lk_l ?_ | refine Up_l ?_ | refine Del_l ?_ | refine St_l ?_ | refine LU_l ?_ | refine Xw_l ?_ | refine Le_l ?_ | refine Se_l ?_ | refine M_l ?_ | refine A_l ?_ | refine A0_l ?_ | refine A1_l ?_ | refine Mk_l ?_ | refine Kz_l ?_ | refine W_l ?_ | fail)
    · exact ⟨by rw [e, h1, hb]; rfl, rfl⟩
    · exact ⟨by rw [e, h1, hb]; rfl, rfl⟩
    · exact ⟨by rw [e, h1]; rfl, rfl⟩
    · exfalso; simp [ba_beq, hne] at hb
/-- is a text among these? -/
def ixF (s : ByteArray) : List ByteArray → Int → Int
  | [], _ => -1
  | x :: r, j => if s == x then j else ixF s r (j + 1)
theorem ixF_ge (s : ByteArray) : ∀ (l : List ByteArray) (j : Int), 0 ≤ j → (0 ≤ ixF s l j ↔ l.any (s == ·) = true)
  | [], j, _ => by simp [ixF]
  | x :: r, j, h => by
    rw [ixF, List.any_cons]
    by_cases e : (s == x) = true
    · rw [if_pos e, e]; simp [h]
    · rw [if_neg e, Bool.eq_false_iff.2 e, Bool.false_or]; exact ixF_ge s r (j + 1) (by omega)
theorem indexR (l : List ByteArray) (s : ByteArray) (hl : l.length < 2 ^ 60) : Comp Tryd.prog 66 [lst strow l, str s] (int .i64 (ixF s l 0)) := by
  generalize hfb : ixF s l 0 = fb
  refine Spec.body (C := cx [] 19) fits (fn := Tryd.f66) Tryd.func66 rfl (by decide) (by decide) (gI ?_)
  refine ST wz ?_ <;> (repeat' (first | exact Wl.mk | refine wy1 ?_ ?_)) <;> repeat (intro hb; have hx := wy5 hb; clear hx)
  refine wLoop [0, 1, 7, 8] 0 (l.length + 1) ?_
  refine (fun key => key l [] _ rfl rfl hfb.symm :
    (∀ (rest done : List ByteArray) (j : Int), l = done ++ rest → j = done.length → fb = ixF s rest j →
    WR2 _ _ _ _ _ (rest.length + 1) [(0, lst strow l), (1, str s), (7, int .i64 (l.map strow).length), (8, int .i64 j)] []) → _) ?_
  intro rest
  induction rest with
  | nil =>
    intro done j h1 hj hr
    have hlen : l.length = done.length := by rw [h1]; simp
    refine wR (gI ?_)
    refine ST wz ?_ <;> (repeat' (first | exact Wl.mk | refine wy1 ?_ ?_)) <;> repeat (intro hb; have hx := wy5 hb; clear hx)
    exact ⟨by rw [hr]; rfl, rfl⟩
  | cons x rest ih =>
    intro done j h1 hj hr
    have hlen : l.length = done.length + (rest.length + 1) := by rw [h1]; simp
    refine wR (gI ?_)
    refine ST wz ?_ <;> (repeat' (first | exact Wl.mk | refine wy1 ?_ ?_)) <;> repeat (intro hb; have hx := wy5 hb; clear hx)
    · exact ⟨by rw [hr]; simp only [ixF, hb]; rfl, rfl⟩
    · refine rE (ih (done ++ [x]) _ (by rw [h1]; simp) ?_ ?_)
      · rw [wrap_ok (by omega) (by omega)]; simp [hj]
      · rw [hr, wrap_ok (by omega) (by omega)]; simp only [ixF, hb]; rfl
theorem containsR (l : List ByteArray) (s : ByteArray) (hl : l.length < 2 ^ 60) : Comp Tryd.prog 41 [lst strow l, str s] (bool (l.any (s == ·))) := by
  have c1 := indexR l s hl
  have hg := ixF_ge s l 0 (by omega)
  refine Spec.body (C := cx [] 9) fits (fn := Tryd.f41) Tryd.func41 rfl (by decide) (by decide) (gI ?_)
  refine ST (wc c1 wz) ?_ <;> (repeat' (first | exact Wl.mk | refine wy1 ?_ ?_)) <;> repeat (intro hb; have hx := wy5 hb; clear hx)
  · have h : l.any (s == ·) = true := hg.1 (by simpa using hb)
    exact ⟨by rw [h]; rfl, rfl⟩
  · have h : l.any (s == ·) = false := by
      rw [Bool.eq_false_iff]; intro h; have := hg.2 h; simp at hb; omega
    exact ⟨by rw [h]; rfl, rfl⟩
/-- words of the language -/
def keyW : List ByteArray := [⟨#[80, 79, 76, 73, 67, 89]⟩, ⟨#[85, 83, 69]⟩, ⟨#[68, 69, 70, 65, 85, 76, 84]⟩, ⟨#[65, 76, 76, 79, 87]⟩, ⟨#[76, 79, 71]⟩, ⟨#[75, 73, 76, 76]⟩, ⟨#[75, 73, 76, 76, 95, 80, 82, 79, 67, 69, 83, 83]⟩, ⟨#[84, 82, 65, 80]⟩, ⟨#[69, 82, 82, 78, 79]⟩, ⟨#[84, 82, 65, 67, 69]⟩]
def nameF (s : ByteArray) : Bool := wordF s && !keyW.any (s == ·)
theorem nameR (s : ByteArray) (hs : s.size < 2 ^ 60) : Comp Tryd.prog 24 [str s] (bool (nameF s)) := by
  have c1 := wordR s hs
  have c2 := containsR keyW s (by decide)
  refine Spec.body (C := cx [] 11) fits (fn := Tryd.f24) Tryd.func24 rfl (by decide) (by decide) (gI ?_)
  repeat' (first | ((first | refine C_r ?_ | refine C0_r ?_ | refine O_r ?_ | refine R_r ?_); (conv => whnf); first | (refine ⟨fun hb => ?_, fun hb => ?_⟩ <;> try exact no_way) | refine A_o ?_ | refine B_o ?_ | refine C_o ?_ | refine R_o ?_ | refine fR ?_ | refine fRk ?_ | refine F_o ?_) | refine B_l (c1) (fun h1 => ?_) fun h1 => ?_ | refine B_l (c2) (fun h2 => ?_) fun h2 => ?_ | refine SA_l ?_ | refine V_l ?_ | refine L_l ?_ | refine Q_l ?_ | refine X_l ?_ | refine Xa_l ?_ | refine Xs_l ?_ | refine K_l ?_ | refine Ka_l ?_ | refine Lk_l ?_ | refine Up_l ?_ | refine Del_l ?_ | refine St_l ?_ | refine LU_l ?_ | refine Xw_l ?_ | refine Le_l ?_ | refine Se_l ?_ | refine M_l ?_ | refine A_l ?_ | refine A0_l ?_ | refine A1_l ?_ | refine Mk_l ?_ | refine Kz_l ?_ | refine W_l ?_ | fail)
  all_goals first | exact ⟨by simp only [nameF, h1, h2]; rfl, rfl⟩ | exact ⟨by simp only [nameF, h1]; rfl, rfl⟩
end Go.Proofs.YtjjhckmnnaafkaaDoor
namespace Go.Proofs.YtjjhckmnnaafkaaDoor
open Go Go.Am Go.Proofs
attribute [local irreducible] W WL DL WO RoundEnd
set_option maxRecDepth 10000
set_option maxHeartbeats 4000000
/-- what an expression is -/
inductive Wh where
  | none | num | nam
  | msk (k : Ex)
  | pr (a b : Ex)
  | sg (k : Ex)
def Wh.d : Wh → D
  | .none => .sc .nilIface
  | .num => .ifc 132 true []
  | .nam => .ifc 133 true []
  | .msk k => .ifc 135 true k.row
  | .pr a b => .ifc 115 true (a.row ++ b.row)
  | .sg k => .ifc 136 true k.row
def twoF (k : Int) : Bool := k == 1 || (k == 2 || k == 8)
def whatF : Ex → Wh
  | .mk k o n u l => match l with
    | [] => if k == 7 && (o == ⟨#[]⟩ && n == ⟨#[]⟩) then .num else if k == 5 && (o == ⟨#[]⟩ && u == 0) then .nam else .none
    | [x] => if k == 6 && (o == ⟨#[]⟩ && u == 0) then .msk x else if k == 3 && ((o == ⟨#[]⟩ && u == 0) && n == ⟨#[]⟩) then .sg x else .none
    | [x, y] => if k == 4 && (n == ⟨#[]⟩ && u == 0) then .pr x y else if twoF k && ((o == ⟨#[]⟩ && u == 0) && n == ⟨#[]⟩) then .pr x y else .none
    | _ => .none
theorem twoR (e : Ex) : Comp Tryd.prog 67 [.agg (e.row.map .d)] (bool (twoF e.kind)) := by
  obtain ⟨k, o, n, u, l⟩ := e
  refine Spec.body (C := cx [] 16) fits (fn := Tryd.f67) Tryd.func67 rfl (by decide) (by decide) (gI ?_)
  refine ST wz ?_ <;> (repeat' (first | exact Wl.mk | refine wy1 ?_ ?_)) <;> repeat (intro hb; have hx := wy5 hb; clear hx)
  all_goals (refine ⟨?_, rfl⟩; refine congrArg Am.bool ?_; simp_all [twoF, Ex.kind])
theorem what7 (l : List Ex) (o n : ByteArray) (u : Int) : Comp Tryd.prog 42 [.agg [.d (.sc (.int .i64 7)), .d (.sc (.string o)), .d (.sc (.string n)), .d (.sc (.int .u64 u)), .d (.list ((l).map Ex.row))]] (.one (.d (whatF (.mk (7) o n u (l))).d)) := by
  have c1 := twoR (.mk (7) o n u (l))
  have e2 : twoF (7) = false := rfl
  rw [show (Ex.mk (7) o n u (l)).kind = (7) from rfl, e2] at c1
  have el : Ex.rows (l) = (l).map Ex.row := Ex.rows_eq _
  simp only [Ex.row, el, List.map_cons, List.map_nil] at c1
  refine Spec.body (C := cx [] 149) fits (fn := Tryd.f42) Tryd.func42 rfl (by decide) (by decide) (gI ?_)
  refine STD (wc c1 wz) ?_ <;> (repeat' (first | exact Wl.mk | refine wy1 ?_ ?_)) <;> repeat (intro hb; have hx := wy5 hb; clear hx)
  all_goals (refine ⟨?_, rfl⟩; clear c1 el)
  all_goals first | (have e : whatF (.mk (7) o n u (l)) = .none := (by first | (simp_all [whatF, twoF]; done) | (rcases l with _ | ⟨x, _ | ⟨y, _ | ⟨z, l⟩⟩⟩ <;> simp_all [whatF, twoF])); rw [e]; rfl) | (have e : whatF (.mk (7) o n u (l)) = .num := (by first | (simp_all [whatF, twoF]; done) | (rcases l with _ | ⟨x, _ | ⟨y, _ | ⟨z, l⟩⟩⟩ <;> simp_all [whatF, twoF])); rw [e]; rfl) | trace_state
theorem what5 (l : List Ex) (o n : ByteArray) (u : Int) : Comp Tryd.prog 42 [.agg [.d (.sc (.int .i64 5)), .d (.sc (.string o)), .d (.sc (.string n)), .d (.sc (.int .u64 u)), .d (.list ((l).map Ex.row))]] (.one (.d (whatF (.mk (5) o n u (l))).d)) := by
  have c1 := twoR (.mk (5) o n u (l))
  have e2 : twoF (5) = false := rfl
  rw [show (Ex.mk (5) o n u (l)).kind = (5) from rfl, e2] at c1
  have el : Ex.rows (l) = (l).map Ex.row := Ex.rows_eq _
  simp only [Ex.row, el, List.map_cons, List.map_nil] at c1
  refine Spec.body (C := cx [] 149) fits (fn := Tryd.f42) Tryd.func42 rfl (by decide) (by decide) (gI ?_)
  refine STD (wc c1 wz) ?_ <;> (repeat' (first | exact Wl.mk | refine wy1 ?_ ?_)) <;> repeat (intro hb; have hx := wy5 hb; clear hx)
  all_goals (refine ⟨?_, rfl⟩; clear c1 el)
  all_goals first | (have e : whatF (.mk (5) o n u (l)) = .none := (by first | (simp_all [whatF, twoF]; done) | (rcases l with _ | ⟨x, _ | ⟨y, _ | ⟨z, l⟩⟩⟩ <;> simp_all [whatF, twoF])); rw [e]; rfl) | (have e : whatF (.mk (5) o n u (l)) = .nam := (by first | (simp_all [whatF, twoF]; done) | (rcases l with _ | ⟨x, _ | ⟨y, _ | ⟨z, l⟩⟩⟩ <;> simp_all [whatF, twoF])); rw [e]; rfl) | trace_state
theorem what6 (k1 : Int) (o1 n1 : ByteArray) (u1 : Int) (l1 : List Ex) (o n : ByteArray) (u : Int) : Comp Tryd.prog 42 [.agg [.d (.sc (.int .i64 6)), .d (.sc (.string o)), .d (.sc (.string n)), .d (.sc (.int .u64 u)), .d (.list (([Ex.mk k1 o1 n1 u1 l1]).map Ex.row))]] (.one (.d (whatF (.mk (6) o n u ([Ex.mk k1 o1 n1 u1 l1]))).d)) := by
  have c1 := twoR (.mk (6) o n u ([Ex.mk k1 o1 n1 u1 l1]))
  have e2 : twoF (6) = false := rfl
  rw [show (Ex.mk (6) o n u ([Ex.mk k1 o1 n1 u1 l1])).kind = (6) from rfl, e2] at c1
  have el : Ex.rows ([Ex.mk k1 o1 n1 u1 l1]) = ([Ex.mk k1 o1 n1 u1 l1]).map Ex.row := Ex.rows_eq _
  simp only [Ex.row, el, List.map_cons, List.map_nil] at c1
  refine Spec.body (C := cx [] 149) fits (fn := Tryd.f42) Tryd.func42 rfl (by decide) (by decide) (gI ?_)
  refine STD (wc c1 wz) ?_ <;> (repeat' (first | exact Wl.mk | refine wy1 ?_ ?_)) <;> repeat (intro hb; have hx := wy5 hb; clear hx)
  all_goals (refine ⟨?_, rfl⟩; clear c1 el)
  all_goals first | (have e : whatF (.mk (6) o n u ([Ex.mk k1 o1 n1 u1 l1])) = .none := (by first | (simp_all [whatF, twoF]; done) | (rcases l with _ | ⟨x, _ | ⟨y, _ | ⟨z, l⟩⟩⟩ <;> simp_all [whatF, twoF])); rw [e]; rfl) | (have e : whatF (.mk (6) o n u ([Ex.mk k1 o1 n1 u1 l1])) = .msk (Ex.mk k1 o1 n1 u1 l1) := (by first | (simp_all [whatF, twoF]; done) | (rcases l with _ | ⟨x, _ | ⟨y, _ | ⟨z, l⟩⟩⟩ <;> simp_all [whatF, twoF])); rw [e]; rfl) | trace_state
theorem what6n (l : List Ex) (o n : ByteArray) (u : Int) (hl : ((l.map Ex.row).length == (1 : Int)) = false) : Comp Tryd.prog 42 [.agg [.d (.sc (.int .i64 6)), .d (.sc (.string o)), .d (.sc (.string n)), .d (.sc (.int .u64 u)), .d (.list ((l).map Ex.row))]] (.one (.d (whatF (.mk (6) o n u (l))).d)) := by
  have c1 := twoR (.mk (6) o n u (l))
  have e2 : twoF (6) = false := rfl
  rw [show (Ex.mk (6) o n u (l)).kind = (6) from rfl, e2] at c1
  have el : Ex.rows (l) = (l).map Ex.row := Ex.rows_eq _
  simp only [Ex.row, el, List.map_cons, List.map_nil] at c1
  refine Spec.body (C := cx [] 149) fits (fn := Tryd.f42) Tryd.func42 rfl (by decide) (by decide) (gI ?_)
  refine STD (wc c1 wz) ?_ <;> (repeat' (first | exact Wl.mk | refine wy1 ?_ ?_)) <;> repeat (intro hb; have hx := wy5 hb; clear hx)
  all_goals (refine ⟨?_, rfl⟩; clear c1 el)
  all_goals first | (have e : whatF (.mk (6) o n u (l)) = .none := (by first | (simp_all [whatF, twoF]; done) | (rcases l with _ | ⟨x, _ | ⟨y, _ | ⟨z, l⟩⟩⟩ <;> simp_all [whatF, twoF])); rw [e]; rfl) | trace_state
theorem what3 (k1 : Int) (o1 n1 : ByteArray) (u1 : Int) (l1 : List Ex) (o n : ByteArray) (u : Int) : Comp Tryd.prog 42 [.agg [.d (.sc (.int .i64 3)), .d (.sc (.string o)), .d (.sc (.string n)), .d (.sc (.int .u64 u)), .d (.list (([Ex.mk k1 o1 n1 u1 l1]).map Ex.row))]] (.one (.d (whatF (.mk (3) o n u ([Ex.mk k1 o1 n1 u1 l1]))).d)) := by
  have c1 := twoR (.mk (3) o n u ([Ex.mk k1 o1 n1 u1 l1]))
  have e2 : twoF (3) = false := rfl
  rw [show (Ex.mk (3) o n u ([Ex.mk k1 o1 n1 u1 l1])).kind = (3) from rfl, e2] at c1
  have el : Ex.rows ([Ex.mk k1 o1 n1 u1 l1]) = ([Ex.mk k1 o1 n1 u1 l1]).map Ex.row := Ex.rows_eq _
  simp only [Ex.row, el, List.map_cons, List.map_nil] at c1
  refine Spec.body (C := cx [] 149) fits (fn := Tryd.f42) Tryd.func42 rfl (by decide) (by decide) (gI ?_)
  refine STD (wc c1 wz) ?_ <;> (repeat' (first | exact Wl.mk | refine wy1 ?_ ?_)) <;> repeat (intro hb; have hx := wy5 hb; clear hx)
  all_goals (refine ⟨?_, rfl⟩; clear c1 el)
  all_goals first | (have e : whatF (.mk (3) o n u ([Ex.mk k1 o1 n1 u1 l1])) = .none := (by first | (simp_all [whatF, twoF]; done) | (rcases l with _ | ⟨x, _ | ⟨y, _ | ⟨z, l⟩⟩⟩ <;> simp_all [whatF, twoF])); rw [e]; rfl) | (have e : whatF (.mk (3) o n u ([Ex.mk k1 o1 n1 u1 l1])) = .sg (Ex.mk k1 o1 n1 u1 l1) := (by first | (simp_all [whatF, twoF]; done) | (rcases l with _ | ⟨x, _ | ⟨y, _ | ⟨z, l⟩⟩⟩ <;> simp_all [whatF, twoF])); rw [e]; rfl) | trace_state
theorem what3n (l : List Ex) (o n : ByteArray) (u : Int) (hl : ((l.map Ex.row).length == (1 : Int)) = false) : Comp Tryd.prog 42 [.agg [.d (.sc (.int .i64 3)), .d (.sc (.string o)), .d (.sc (.string n)), .d (.sc (.int .u64 u)), .d (.list ((l).map Ex.row))]] (.one (.d (whatF (.mk (3) o n u (l))).d)) := by
  have c1 := twoR (.mk (3) o n u (l))
  have e2 : twoF (3) = false := rfl
  rw [show (Ex.mk (3) o n u (l)).kind = (3) from rfl, e2] at c1
  have el : Ex.rows (l) = (l).map Ex.row := Ex.rows_eq _
  simp only [Ex.row, el, List.map_cons, List.map_nil] at c1
  refine Spec.body (C := cx [] 149) fits (fn := Tryd.f42) Tryd.func42 rfl (by decide) (by decide) (gI ?_)
  refine STD (wc c1 wz) ?_ <;> (repeat' (first | exact Wl.mk | refine wy1 ?_ ?_)) <;> repeat (intro hb; have hx := wy5 hb; clear hx)
  all_goals (refine ⟨?_, rfl⟩; clear c1 el)
  all_goals first | (have e : whatF (.mk (3) o n u (l)) = .none := (by first | (simp_all [whatF, twoF]; done) | (rcases l with _ | ⟨x, _ | ⟨y, _ | ⟨z, l⟩⟩⟩ <;> simp_all [whatF, twoF])); rw [e]; rfl) | trace_state
theorem what4 (k1 : Int) (o1 n1 : ByteArray) (u1 : Int) (l1 : List Ex) (k2 : Int) (o2 n2 : ByteArray) (u2 : Int) (l2 : List Ex) (o n : ByteArray) (u : Int) : Comp Tryd.prog 42 [.agg [.d (.sc (.int .i64 4)), .d (.sc (.string o)), .d (.sc (.string n)), .d (.sc (.int .u64 u)), .d (.list (([Ex.mk k1 o1 n1 u1 l1, Ex.mk k2 o2 n2 u2 l2]).map Ex.row))]] (.one (.d (whatF (.mk (4) o n u ([Ex.mk k1 o1 n1 u1 l1, Ex.mk k2 o2 n2 u2 l2]))).d)) := by
  have c1 := twoR (.mk (4) o n u ([Ex.mk k1 o1 n1 u1 l1, Ex.mk k2 o2 n2 u2 l2]))
  have e2 : twoF (4) = false := rfl
  rw [show (Ex.mk (4) o n u ([Ex.mk k1 o1 n1 u1 l1, Ex.mk k2 o2 n2 u2 l2])).kind = (4) from rfl, e2] at c1
  have el : Ex.rows ([Ex.mk k1 o1 n1 u1 l1, Ex.mk k2 o2 n2 u2 l2]) = ([Ex.mk k1 o1 n1 u1 l1, Ex.mk k2 o2 n2 u2 l2]).map Ex.row := Ex.rows_eq _
  simp only [Ex.row, el, List.map_cons, List.map_nil] at c1
  refine Spec.body (C := cx [] 149) fits (fn := Tryd.f42) Tryd.func42 rfl (by decide) (by decide) (gI ?_)
  refine STD (wc c1 wz) ?_ <;> (repeat' (first | exact Wl.mk | refine wy1 ?_ ?_)) <;> repeat (intro hb; have hx := wy5 hb; clear hx)
  all_goals (refine ⟨?_, rfl⟩; clear c1 el)
  all_goals first | (have e : whatF (.mk (4) o n u ([Ex.mk k1 o1 n1 u1 l1, Ex.mk k2 o2 n2 u2 l2])) = .none := (by first | (simp_all [whatF, twoF]; done) | (rcases l with _ | ⟨x, _ | ⟨y, _ | ⟨z, l⟩⟩⟩ <;> simp_all [whatF, twoF])); rw [e]; rfl) | (have e : whatF (.mk (4) o n u ([Ex.mk k1 o1 n1 u1 l1, Ex.mk k2 o2 n2 u2 l2])) = .pr (Ex.mk k1 o1 n1 u1 l1) (Ex.mk k2 o2 n2 u2 l2) := (by first | (simp_all [whatF, twoF]; done) | (rcases l with _ | ⟨x, _ | ⟨y, _ | ⟨z, l⟩⟩⟩ <;> simp_all [whatF, twoF])); rw [e]; rfl) | trace_state
theorem what4n (l : List Ex) (o n : ByteArray) (u : Int) (hl : ((l.map Ex.row).length == (2 : Int)) = false) : Comp Tryd.prog 42 [.agg [.d (.sc (.int .i64 4)), .d (.sc (.string o)), .d (.sc (.string n)), .d (.sc (.int .u64 u)), .d (.list ((l).map Ex.row))]] (.one (.d (whatF (.mk (4) o n u (l))).d)) := by
  have c1 := twoR (.mk (4) o n u (l))
  have e2 : twoF (4) = false := rfl
  rw [show (Ex.mk (4) o n u (l)).kind = (4) from rfl, e2] at c1
  have el : Ex.rows (l) = (l).map Ex.row := Ex.rows_eq _
  simp only [Ex.row, el, List.map_cons, List.map_nil] at c1
  refine Spec.body (C := cx [] 149) fits (fn := Tryd.f42) Tryd.func42 rfl (by decide) (by decide) (gI ?_)
  refine STD (wc c1 wz) ?_ <;> (repeat' (first | exact Wl.mk | refine wy1 ?_ ?_)) <;> repeat (intro hb; have hx := wy5 hb; clear hx)
  all_goals (refine ⟨?_, rfl⟩; clear c1 el)
  all_goals first | (have e : whatF (.mk (4) o n u (l)) = .none := (by first | (simp_all [whatF, twoF]; done) | (rcases l with _ | ⟨x, _ | ⟨y, _ | ⟨z, l⟩⟩⟩ <;> simp_all [whatF, twoF])); rw [e]; rfl) | trace_state
theorem whatT (kd : Int) (k1 : Int) (o1 n1 : ByteArray) (u1 : Int) (l1 : List Ex) (k2 : Int) (o2 n2 : ByteArray) (u2 : Int) (l2 : List Ex) (o n : ByteArray) (u : Int) (k7 : (kd == 7) = false) (k5 : (kd == 5) = false) (k6 : (kd == 6) = false) (k3 : (kd == 3) = false) (k4 : (kd == 4) = false) (ht : twoF kd = true) : Comp Tryd.prog 42 [.agg [.d (.sc (.int .i64 kd)), .d (.sc (.string o)), .d (.sc (.string n)), .d (.sc (.int .u64 u)), .d (.list (([Ex.mk k1 o1 n1 u1 l1, Ex.mk k2 o2 n2 u2 l2]).map Ex.row))]] (.one (.d (whatF (.mk (kd) o n u ([Ex.mk k1 o1 n1 u1 l1, Ex.mk k2 o2 n2 u2 l2]))).d)) := by
  have c1 := twoR (.mk (kd) o n u ([Ex.mk k1 o1 n1 u1 l1, Ex.mk k2 o2 n2 u2 l2]))
  have e2 : twoF (kd) = true := ht
  rw [show (Ex.mk (kd) o n u ([Ex.mk k1 o1 n1 u1 l1, Ex.mk k2 o2 n2 u2 l2])).kind = (kd) from rfl, e2] at c1
  have el : Ex.rows ([Ex.mk k1 o1 n1 u1 l1, Ex.mk k2 o2 n2 u2 l2]) = ([Ex.mk k1 o1 n1 u1 l1, Ex.mk k2 o2 n2 u2 l2]).map Ex.row := Ex.rows_eq _
  simp only [Ex.row, el, List.map_cons, List.map_nil] at c1
  refine Spec.body (C := cx [] 149) fits (fn := Tryd.f42) Tryd.func42 rfl (by decide) (by decide) (gI ?_)
  refine STD (wc c1 wz) ?_ <;> (repeat' (first | exact Wl.mk | refine wy1 ?_ ?_)) <;> repeat (intro hb; have hx := wy5 hb; clear hx)
  all_goals (refine ⟨?_, rfl⟩; clear c1 el)
  all_goals first | (have e : whatF (.mk (kd) o n u ([Ex.mk k1 o1 n1 u1 l1, Ex.mk k2 o2 n2 u2 l2])) = .none := (by first | (simp_all [whatF, twoF]; done) | (rcases l with _ | ⟨x, _ | ⟨y, _ | ⟨z, l⟩⟩⟩ <;> simp_all [whatF, twoF])); rw [e]; rfl) | (have e : whatF (.mk (kd) o n u ([Ex.mk k1 o1 n1 u1 l1, Ex.mk k2 o2 n2 u2 l2])) = .pr (Ex.mk k1 o1 n1 u1 l1) (Ex.mk k2 o2 n2 u2 l2) := (by first | (simp_all [whatF, twoF]; done) | (rcases l with _ | ⟨x, _ | ⟨y, _ | ⟨z, l⟩⟩⟩ <;> simp_all [whatF, twoF])); rw [e]; rfl) | trace_state
theorem whatTn (kd : Int) (l : List Ex) (o n : ByteArray) (u : Int) (k7 : (kd == 7) = false) (k5 : (kd == 5) = false) (k6 : (kd == 6) = false) (k3 : (kd == 3) = false) (k4 : (kd == 4) = false) (ht : twoF kd = true) (hl : ((l.map Ex.row).length == (2 : Int)) = false) : Comp Tryd.prog 42 [.agg [.d (.sc (.int .i64 kd)), .d (.sc (.string o)), .d (.sc (.string n)), .d (.sc (.int .u64 u)), .d (.list ((l).map Ex.row))]] (.one (.d (whatF (.mk (kd) o n u (l))).d)) := by
  have c1 := twoR (.mk (kd) o n u (l))
  have e2 : twoF (kd) = true := ht
  rw [show (Ex.mk (kd) o n u (l)).kind = (kd) from rfl, e2] at c1
  have el : Ex.rows (l) = (l).map Ex.row := Ex.rows_eq _
  simp only [Ex.row, el, List.map_cons, List.map_nil] at c1
  refine Spec.body (C := cx [] 149) fits (fn := Tryd.f42) Tryd.func42 rfl (by decide) (by decide) (gI ?_)
  refine STD (wc c1 wz) ?_ <;> (repeat' (first | exact Wl.mk | refine wy1 ?_ ?_)) <;> repeat (intro hb; have hx := wy5 hb; clear hx)
  all_goals (refine ⟨?_, rfl⟩; clear c1 el)
  all_goals first | (have e : whatF (.mk (kd) o n u (l)) = .none := (by first | (simp_all [whatF, twoF]; done) | (rcases l with _ | ⟨x, _ | ⟨y, _ | ⟨z, l⟩⟩⟩ <;> simp_all [whatF, twoF])); rw [e]; rfl) | trace_state
theorem whatO (kd : Int) (l : List Ex) (o n : ByteArray) (u : Int) (k7 : (kd == 7) = false) (k5 : (kd == 5) = false) (k6 : (kd == 6) = false) (k3 : (kd == 3) = false) (k4 : (kd == 4) = false) (ht : twoF kd = false) : Comp Tryd.prog 42 [.agg [.d (.sc (.int .i64 kd)), .d (.sc (.string o)), .d (.sc (.string n)), .d (.sc (.int .u64 u)), .d (.list ((l).map Ex.row))]] (.one (.d (whatF (.mk (kd) o n u (l))).d)) := by
  have c1 := twoR (.mk (kd) o n u (l))
  have e2 : twoF (kd) = false := ht
  rw [show (Ex.mk (kd) o n u (l)).kind = (kd) from rfl, e2] at c1
  have el : Ex.rows (l) = (l).map Ex.row := Ex.rows_eq _
  simp only [Ex.row, el, List.map_cons, List.map_nil] at c1
  refine Spec.body (C := cx [] 149) fits (fn := Tryd.f42) Tryd.func42 rfl (by decide) (by decide) (gI ?_)
  refine STD (wc c1 wz) ?_ <;> (repeat' (first | exact Wl.mk | refine wy1 ?_ ?_)) <;> repeat (intro hb; have hx := wy5 hb; clear hx)
  all_goals (refine ⟨?_, rfl⟩; clear c1 el)
  all_goals first | (have e : whatF (.mk (kd) o n u (l)) = .none := (by first | (simp_all [whatF, twoF]; done) | (rcases l with _ | ⟨x, _ | ⟨y, _ | ⟨z, l⟩⟩⟩ <;> simp_all [whatF, twoF])); rw [e]; rfl) | trace_state
theorem len_ne {l : List Ex} {n : Nat} (h : l.length ≠ n) : ((l.map Ex.row).length == (n : Int)) = false := by
  rw [List.length_map, Bool.eq_false_iff]
  intro hc
  rw [beq_iff_eq] at hc
  omega
theorem whatR (e : Ex) : Comp Tryd.prog 42 [.agg (e.row.map .d)] (.one (.d (whatF e).d)) := by
  obtain ⟨kd, o, n, u, l⟩ := e
  have el : Ex.rows l = l.map Ex.row := Ex.rows_eq l
  simp only [Ex.row, el, List.map_cons, List.map_nil]
  by_cases h7 : kd = 7
  · subst h7; exact what7 l o n u
  by_cases h5 : kd = 5
  · subst h5; exact what5 l o n u
  by_cases h6 : kd = 6
  · subst h6
    rcases l with _ | ⟨⟨k1, o1, n1, u1, l1⟩, _ | ⟨y, l⟩⟩
    · exact what6n [] o n u rfl
    · exact what6 k1 o1 n1 u1 l1 o n u
    · exact what6n _ o n u (len_ne (n := 1) (by simp))
  by_cases h3 : kd = 3
  · subst h3
    rcases l with _ | ⟨⟨k1, o1, n1, u1, l1⟩, _ | ⟨y, l⟩⟩
    · exact what3n [] o n u rfl
    · exact what3 k1 o1 n1 u1 l1 o n u
    · exact what3n _ o n u (len_ne (n := 1) (by simp))
  by_cases h4 : kd = 4
  · subst h4
    rcases l with _ | ⟨⟨k1, o1, n1, u1, l1⟩, _ | ⟨⟨k2, o2, n2, u2, l2⟩, _ | ⟨z, l⟩⟩⟩
    · exact what4n [] o n u rfl
    · exact what4n _ o n u (len_ne (n := 2) (by simp))
    · exact what4 k1 o1 n1 u1 l1 k2 o2 n2 u2 l2 o n u
    · exact what4n _ o n u (len_ne (n := 2) (by simp))
  have b7 : (kd == 7) = false := by simp [h7]
  have b5 : (kd == 5) = false := by simp [h5]
  have b6 : (kd == 6) = false := by simp [h6]
  have b3 : (kd == 3) = false := by simp [h3]
  have b4 : (kd == 4) = false := by simp [h4]
  cases ht : twoF kd with
  | true =>
    rcases l with _ | ⟨⟨k1, o1, n1, u1, l1⟩, _ | ⟨⟨k2, o2, n2, u2, l2⟩, _ | ⟨z, l⟩⟩⟩
    · exact whatTn kd [] o n u b7 b5 b6 b3 b4 ht rfl
    · exact whatTn kd _ o n u b7 b5 b6 b3 b4 ht (len_ne (n := 2) (by simp))
    · exact whatT kd k1 o1 n1 u1 l1 k2 o2 n2 u2 l2 o n u b7 b5 b6 b3 b4 ht
    · exact whatTn kd _ o n u b7 b5 b6 b3 b4 ht (len_ne (n := 2) (by simp))
  | false => exact whatO kd l o n u b7 b5 b6 b3 b4 ht
end Go.Proofs.YtjjhckmnnaafkaaDoor
namespace Go.Proofs.YtjjhckmnnaafkaaDoor
open Go Go.Am Go.Proofs
attribute [local irreducible] W WL DL WO RoundEnd
set_option maxRecDepth 10000
set_option maxHeartbeats 4000000
mutual
/-- names are no longer than memory allows, all the way down -/
def Ex.nok : Ex → Prop
  | .mk _ _ n _ l => n.size < 2 ^ 60 ∧ Ex.noks l
def Ex.noks : List Ex → Prop
  | [] => True
  | x :: l => Ex.nok x ∧ Ex.noks l
end
theorem whatF_in (e : Ex) : match whatF e with
    | .none => True
    | .num => e.kind = 7
    | .nam => e.kind = 5
    | .msk x => e.kind = 6 ∧ e.kids = [x]
    | .sg x => e.kind = 3 ∧ e.kids = [x]
    | .pr x y => (e.kind = 4 ∨ twoF e.kind = true) ∧ e.kids = [x, y] := by
  obtain ⟨kd, o, n, u, l⟩ := e
  rcases l with _ | ⟨x, _ | ⟨y, _ | ⟨z, l⟩⟩⟩
  · simp only [whatF]
    split
    · trivial
    all_goals (rename_i h; split at h <;> (try split at h) <;> simp_all [Ex.kind, Ex.kids])
  · simp only [whatF]
    split
    · trivial
    all_goals (rename_i h; split at h <;> (try split at h) <;> simp_all [Ex.kind, Ex.kids])
  · simp only [whatF]
    split
    · trivial
    all_goals (rename_i h; split at h <;> (try split at h) <;> simp_all [Ex.kind, Ex.kids])
  · simp [whatF]
def oneF (e : Ex) : Bool := match whatF e with
  | .num => true
  | .nam => nameF e.name
  | _ => false
theorem oneR (e : Ex) (hn : e.name.size < 2 ^ 60) : Comp Tryd.prog 43 [.agg (e.row.map .d)] (bool (oneF e)) := by
  have c1 := whatR e
  have c2 := nameR e.name hn
  unfold oneF
  obtain ⟨kd, o, n, u, l⟩ := e
  cases hw : whatF (.mk kd o n u l) with
  | none =>
    rw [hw] at c1
    refine Spec.body (C := cx [] 27) fits (fn := Tryd.f43) Tryd.func43 rfl (by decide) (by decide) (gI ?_)
    repeat' (first | ((first | refine C_r ?_ | refine C0_r ?_ | refine O_r ?_ | refine R_r ?_); (conv => whnf); first | (refine ⟨fun hb => ?_, fun hb => ?_⟩ <;> try exact no_way) | refine A_o ?_ | refine B_o ?_ | refine C_o ?_ | refine R_o ?_ | refine fR ?_ | refine fRk ?_ | refine F_o ?_) | refine C_l (c1) ?_ | refine B_l (c2) (fun h2 => ?_) fun h2 => ?_ | refine SA_l ?_ | refine V_l ?_ | refine L_l ?_ | refine Q_l ?_ | refine X_l ?_ | refine Xa_l ?_ | refine Xs_l ?_ | refine K_l ?_ | refine Ka_l ?_ | refine Lk_l ?_ | refine Up_l ?_ | refine Del_l ?_ | refine St_l ?_ | refine LU_l ?_ | refine Xw_l ?_ | refine Le_l ?_ | refine Se_l ?_ | refine M_l ?_ | refine A_l ?_ | refine A0_l ?_ | refine A1_l ?_ | refine Mk_l ?_ | refine Kz_l ?_ | refine W_l ?_ | fail)
    all_goals exact ⟨rfl, rfl⟩
  | num =>
    rw [hw] at c1
    refine Spec.body (C := cx [] 27) fits (fn := Tryd.f43) Tryd.func43 rfl (by decide) (by decide) (gI ?_)
    repeat' (first | ((first | refine C_r ?_ | refine C0_r ?_ | refine O_r ?_ | refine R_r ?_); (conv => whnf); first | (refine ⟨fun hb => ?_, fun hb => ?_⟩ <;> try exact no_way) | refine A_o ?_ | refine B_o ?_ | refine C_o ?_ | refine R_o ?_ | refine fR ?_ | refine fRk ?_ | refine F_o ?_) | refine C_l (c1) ?_ | refine B_l (c2) (fun h2 => ?_) fun h2 => ?_ | refine SA_l ?_ | refine V_l ?_ | refine L_l ?_ | refine Q_l ?_ | refine X_l ?_ | refine Xa_l ?_ | refine Xs_l ?_ | refine K_l ?_ | refine Ka_l ?_ | refine Lk_l ?_ | refine Up_l ?_ | refine Del_l ?_ | refine St_l ?_ | refine LU_l ?_ | refine Xw_l ?_ | refine Le_l ?_ | refine Se_l ?_ | refine M_l ?_ | refine A_l ?_ | refine A0_l ?_ | refine A1_l ?_ | refine Mk_l ?_ | refine Kz_l ?_ | refine W_l ?_ | fail)
    all_goals exact ⟨rfl, rfl⟩
  | nam =>
    rw [hw] at c1
    refine Spec.body (C := cx [] 27) fits (fn := Tryd.f43) Tryd.func43 rfl (by decide) (by decide) (gI ?_)
    repeat' (first | ((first | refine C_r ?_ | refine C0_r ?_ | refine O_r ?_ | refine R_r ?_); (conv => whnf); first | (refine ⟨fun hb => ?_, fun hb => ?_⟩ <;> try exact no_way) | refine A_o ?_ | refine B_o ?_ | refine C_o ?_ | refine R_o ?_ | refine fR ?_ | refine fRk ?_ | refine F_o ?_) | refine C_l (c1) ?_ | refine B_l (c2) (fun h2 => ?_) fun h2 => ?_ | refine SA_l ?_ | refine V_l ?_ | refine L_l ?_ | refine Q_l ?_ | refine X_l ?_ | refine Xa_l ?_ | refine Xs_l ?_ | refine K_l ?_ | refine Ka_l ?_ | refine Lk_l ?_ | refine Up_l ?_ | refine Del_l ?_ | refine St_l ?_ | refine LU_l ?_ | refine Xw_l ?_ | refine Le_l ?_ | refine Se_l ?_ | refine M_l ?_ | refine A_l ?_ | refine A0_l ?_ | refine A1_l ?_ | refine Mk_l ?_ | refine Kz_l ?_ | refine W_l ?_ | fail)
    all_goals exact ⟨by simp only [h2]; rfl, rfl⟩
  | msk x =>
    rw [hw] at c1
    refine Spec.body (C := cx [] 27) fits (fn := Tryd.f43) Tryd.func43 rfl (by decide) (by decide) (gI ?_)
    repeat' (first | ((first | refine C_r ?_ | refine C0_r ?_ | refine O_r ?_ | refine R_r ?_); (conv => whnf); first | (refine ⟨fun hb => ?_, fun hb => ?_⟩ <;> try exact no_way) | refine A_o ?_ | refine B_o ?_ | refine C_o ?_ | refine R_o ?_ | refine fR ?_ | refine fRk ?_ | refine F_o ?_) | refine C_l (c1) ?_ | refine B_l (c2) (fun h2 => ?_) fun h2 => ?_ | refine SA_l ?_ | refine V_l ?_ | refine L_l ?_ | refine Q_l ?_ | refine X_l ?_ | refine Xa_l ?_ | refine Xs_l ?_ | refine K_l ?_ | refine Ka_l ?_ | refine Lk_l ?_ | refine Up_l ?_ | refine Del_l ?_ | refine St_l ?_ | refine LU_l ?_ | refine Xw_l ?_ | refine Le_l ?_ | refine Se_l ?_ | refine M_l ?_ | refine A_l ?_ | refine A0_l ?_ | refine A1_l ?_ | refine Mk_l ?_ | refine Kz_l ?_ | refine W_l ?_ | fail)
    all_goals exact ⟨rfl, rfl⟩
  | sg x =>
    rw [hw] at c1
    refine Spec.body (C := cx [] 27) fits (fn := Tryd.f43) Tryd.func43 rfl (by decide) (by decide) (gI ?_)
    repeat' (first | ((first | refine C_r ?_ | refine C0_r ?_ | refine O_r ?_ | refine R_r ?_); (conv => whnf); first | (refine ⟨fun hb => ?_, fun hb => ?_⟩ <;> try exact no_way) | refine A_o ?_ | refine B_o ?_ | refine C_o ?_ | refine R_o ?_ | refine fR ?_ | refine fRk ?_ | refine F_o ?_) | refine C_l (c1) ?_ | refine B_l (c2) (fun h2 => ?_) fun h2 => ?_ | refine SA_l ?_ | refine V_l ?_ | refine L_l ?_ | refine Q_l ?_ | refine X_l ?_ | refine Xa_l ?_ | refine Xs_l ?_ | refine K_l ?_ | refine Ka_l ?_ | refine Lk_l ?_ | refine Up_l ?_ | refine Del_l ?_ | refine St_l ?_ | refine LU_l ?_ | refine Xw_l ?_ | refine Le_l ?_ | refine Se_l ?_ | refine M_l ?_ | refine A_l ?_ | refine A0_l ?_ | refine A1_l ?_ | refine Mk_l ?_ | refine Kz_l ?_ | refine W_l ?_ | fail)
    all_goals exact ⟨rfl, rfl⟩
  | pr x y =>
    rw [hw] at c1
    refine Spec.body (C := cx [] 27) fits (fn := Tryd.f43) Tryd.func43 rfl (by decide) (by decide) (gI ?_)
    repeat' (first | ((first | refine C_r ?_ | refine C0_r ?_ | refine O_r ?_ | refine R_r ?_); (conv => whnf); first | (refine ⟨fun hb => ?_, fun hb => ?_⟩ <;> try exact no_way) | refine A_o ?_ | refine B_o ?_ | refine C_o ?_ | refine R_o ?_ | refine fR ?_ | refine fRk ?_ | refine F_o ?_) | refine C_l (c1) ?_ | refine B_l (c2) (fun h2 => ?_) fun h2 => ?_ | refine SA_l ?_ | refine V_l ?_ | refine L_l ?_ | refine Q_l ?_ | refine X_l ?_ | refine Xa_l ?_ | refine Xs_l ?_ | refine K_l ?_ | refine Ka_l ?_ | refine Lk_l ?_ | refine Up_l ?_ | refine Del_l ?_ | refine St_l ?_ | refine LU_l ?_ | refine Xw_l ?_ | refine Le_l ?_ | refine Se_l ?_ | refine M_l ?_ | refine A_l ?_ | refine A0_l ?_ | refine A1_l ?_ | refine Mk_l ?_ | refine Kz_l ?_ | refine W_l ?_ | fail)
    all_goals exact ⟨rfl, rfl⟩
def comparedF (e : Ex) : Bool := match whatF e with
  | .nam => nameF e.name
  | .msk x => nameF e.name && oneF x
  | _ => false
theorem comparedR (e : Ex) (hn : e.nok) : Comp Tryd.prog 87 [.agg (e.row.map .d)] (bool (comparedF e)) := by
  have c1 := whatR e
  have hin := whatF_in e
  unfold comparedF
  obtain ⟨kd, o, n, u, l⟩ := e
  have c2 := nameR n hn.1
  cases hw : whatF (.mk kd o n u l) with
  | none =>
    rw [hw] at c1
    refine Spec.body (C := cx [] 35) fits (fn := Tryd.f87) Tryd.func87 rfl (by decide) (by decide) (gI ?_)
    repeat' (first | ((first | refine C_r ?_ | refine C0_r ?_ | refine O_r ?_ | refine R_r ?_); (conv => whnf); first | (refine ⟨fun hb => ?_, fun hb => ?_⟩ <;> try exact no_way) | refine A_o ?_ | refine B_o ?_ | refine C_o ?_ | refine R_o ?_ | refine fR ?_ | refine fRk ?_ | refine F_o ?_) | refine C_l (c1) ?_ | refine B_l (c2) (fun h2 => ?_) fun h2 => ?_ | refine SA_l ?_ | refine V_l ?_ | refine L_l ?_ | refine Q_l ?_ | refine X_l ?_ | refine Xa_l ?_ | refine Xs_l ?_ | refine K_l ?_ | refine Ka_l ?_ | refine Lk_l ?_ | refine Up_l ?_ | refine Del_l ?_ | refine St_l ?_ | refine LU_l ?_ | refine Xw_l ?_ | refine Le_l ?_ | refine Se_l ?_ | refine M_l ?_ | refine A_l ?_ | refine A0_l ?_ | refine A1_l ?_ | refine Mk_l ?_ | refine Kz_l ?_ | refine W_l ?_ | fail)
    all_goals exact ⟨rfl, rfl⟩
  | num =>
    rw [hw] at c1
    refine Spec.body (C := cx [] 35) fits (fn := Tryd.f87) Tryd.func87 rfl (by decide) (by decide) (gI ?_)
    repeat' (first | ((first | refine C_r ?_ | refine C0_r ?_ | refine O_r ?_ | refine R_r ?_); (conv => whnf); first | (refine ⟨fun hb => ?_, fun hb => ?_⟩ <;> try exact no_way) | refine A_o ?_ | refine B_o ?_ | refine C_o ?_ | refine R_o ?_ | refine fR ?_ | refine fRk ?_ | refine F_o ?_) | refine C_l (c1) ?_ | refine B_l (c2) (fun h2 => ?_) fun h2 => ?_ | refine SA_l ?_ | refine V_l ?_ | refine L_l ?_ | refine Q_l ?_ | refine X_l ?_ | refine Xa_l ?_ | refine Xs_l ?_ | refine K_l ?_ | refine Ka_l ?_ | refine Lk_l ?_ | refine Up_l ?_ | refine Del_l ?_ | refine St_l ?_ | refine LU_l ?_ | refine Xw_l ?_ | refine Le_l ?_ | refine Se_l ?_ | refine M_l ?_ | refine A_l ?_ | refine A0_l ?_ | refine A1_l ?_ | refine Mk_l ?_ | refine Kz_l ?_ | refine W_l ?_ | fail)
    all_goals exact ⟨rfl, rfl⟩
  | nam =>
    rw [hw] at c1
    refine Spec.body (C := cx [] 35) fits (fn := Tryd.f87) Tryd.func87 rfl (by decide) (by decide) (gI ?_)
    repeat' (first | ((first | refine C_r ?_ | refine C0_r ?_ | refine O_r ?_ | refine R_r ?_); (conv => whnf); first | (refine ⟨fun hb => ?_, fun hb => ?_⟩ <;> try exact no_way) | refine A_o ?_ | refine B_o ?_ | refine C_o ?_ | refine R_o ?_ | refine fR ?_ | refine fRk ?_ | refine F_o ?_) | refine C_l (c1) ?_ | refine B_l (c2) (fun h2 => ?_) fun h2 => ?_ | refine SA_l ?_ | refine V_l ?_ | refine L_l ?_ | refine Q_l ?_ | refine X_l ?_ | refine Xa_l ?_ | refine Xs_l ?_ | refine K_l ?_ | refine Ka_l ?_ | refine Lk_l ?_ | refine Up_l ?_ | refine Del_l ?_ | refine St_l ?_ | refine LU_l ?_ | refine Xw_l ?_ | refine Le_l ?_ | refine Se_l ?_ | refine M_l ?_ | refine A_l ?_ | refine A0_l ?_ | refine A1_l ?_ | refine Mk_l ?_ | refine Kz_l ?_ | refine W_l ?_ | fail)
    all_goals exact ⟨by simp only [Ex.name, h2]; rfl, rfl⟩
  | msk x =>
    rw [hw] at c1 hin
    have hk : l = [x] := hin.2
    subst hk
    have c3 := oneR x (by have := hn.2; obtain ⟨_, _, nm, _, _⟩ := x; exact this.1.1)
    obtain ⟨k1, o1, n1, u1, l1⟩ := x
    refine Spec.body (C := cx [] 35) fits (fn := Tryd.f87) Tryd.func87 rfl (by decide) (by decide) (gI ?_)
    repeat' (first | ((first | refine C_r ?_ | refine C0_r ?_ | refine O_r ?_ | refine R_r ?_); (conv => whnf); first | (refine ⟨fun hb => ?_, fun hb => ?_⟩ <;> try exact no_way) | refine A_o ?_ | refine B_o ?_ | refine C_o ?_ | refine R_o ?_ | refine fR ?_ | refine fRk ?_ | refine F_o ?_) | refine C_l (c1) ?_ | refine B_l (c2) (fun h2 => ?_) fun h2 => ?_ | refine B_l (c3) (fun h3 => ?_) fun h3 => ?_ | refine SA_l ?_ | refine V_l ?_ | refine L_l ?_ | refine Q_l ?_ | refine X_l ?_ | refine Xa_l ?_ | refine Xs_l ?_ | refine K_l ?_ | refine Ka_l ?_ | refine Lk_l ?_ | refine Up_l ?_ | refine Del_l ?_ | refine St_l ?_ | refine LU_l ?_ | refine Xw_l ?_ | refine Le_l ?_ | refine Se_l ?_ | refine M_l ?_ | refine A_l ?_ | refine A0_l ?_ | refine A1_l ?_ | refine Mk_l ?_ | refine Kz_l ?_ | refine W_l ?_ | fail)
    all_goals first | exact ⟨by simp only [Ex.name, h2, h3]; rfl, rfl⟩ | exact ⟨by simp only [Ex.name, h2]; rfl, rfl⟩
  | sg x =>
    rw [hw] at c1
    refine Spec.body (C := cx [] 35) fits (fn := Tryd.f87) Tryd.func87 rfl (by decide) (by decide) (gI ?_)
    repeat' (first | ((first | refine C_r ?_ | refine C0_r ?_ | refine O_r ?_ | refine R_r ?_); (conv => whnf); first | (refine ⟨fun hb => ?_, fun hb => ?_⟩ <;> try exact no_way) | refine A_o ?_ | refine B_o ?_ | refine C_o ?_ | refine R_o ?_ | refine fR ?_ | refine fRk ?_ | refine F_o ?_) | refine C_l (c1) ?_ | refine B_l (c2) (fun h2 => ?_) fun h2 => ?_ | refine SA_l ?_ | refine V_l ?_ | refine L_l ?_ | refine Q_l ?_ | refine X_l ?_ | refine Xa_l ?_ | refine Xs_l ?_ | refine K_l ?_ | refine Ka_l ?_ | refine Lk_l ?_ | refine Up_l ?_ | refine Del_l ?_ | refine St_l ?_ | refine LU_l ?_ | refine Xw_l ?_ | refine Le_l ?_ | refine Se_l ?_ | refine M_l ?_ | refine A_l ?_ | refine A0_l ?_ | refine A1_l ?_ | refine Mk_l ?_ | refine Kz_l ?_ | refine W_l ?_ | fail)
    all_goals exact ⟨rfl, rfl⟩
  | pr x y =>
    rw [hw] at c1
    refine Spec.body (C := cx [] 35) fits (fn := Tryd.f87) Tryd.func87 rfl (by decide) (by decide) (gI ?_)
    repeat' (first | ((first | refine C_r ?_ | refine C0_r ?_ | refine O_r ?_ | refine R_r ?_); (conv => whnf); first | (refine ⟨fun hb => ?_, fun hb => ?_⟩ <;> try exact no_way) | refine A_o ?_ | refine B_o ?_ | refine C_o ?_ | refine R_o ?_ | refine fR ?_ | refine fRk ?_ | refine F_o ?_) | refine C_l (c1) ?_ | refine B_l (c2) (fun h2 => ?_) fun h2 => ?_ | refine SA_l ?_ | refine V_l ?_ | refine L_l ?_ | refine Q_l ?_ | refine X_l ?_ | refine Xa_l ?_ | refine Xs_l ?_ | refine K_l ?_ | refine Ka_l ?_ | refine Lk_l ?_ | refine Up_l ?_ | refine Del_l ?_ | refine St_l ?_ | refine LU_l ?_ | refine Xw_l ?_ | refine Le_l ?_ | refine Se_l ?_ | refine M_l ?_ | refine A_l ?_ | refine A0_l ?_ | refine A1_l ?_ | refine Mk_l ?_ | refine Kz_l ?_ | refine W_l ?_ | fail)
    all_goals exact ⟨rfl, rfl⟩
def numF : Nat → Ex → Bool
  | 0, _ => false
  | m + 1, e => if e.kind = 8 then (match whatF e with
    | .pr a b => oneF b && numF m a
    | _ => false) else oneF e
theorem numberR (n0 : Nat) (e0 : Ex) (hs0 : e0.size < n0) (hn0 : e0.nok) : Comp Tryd.prog 25 [.agg (e0.row.map .d)] (bool (numF n0 e0)) := by
  generalize hfb : numF n0 e0 = fb
  obtain ⟨kd0, o0, n0', u0, l0⟩ := e0
  refine Spec.body (C := cx [] 26) fits (fn := Tryd.f25) Tryd.func25 rfl (by decide) (by decide) (gI ?_)
  refine ST wz ?_ <;> (repeat' (first | exact Wl.mk | refine wy1 ?_ ?_)) <;> repeat (intro hb; have hx := wy5 hb; clear hx)
  refine wLoop [1] 1 n0 ?_
  refine (fun key => key n0 (.mk kd0 o0 n0' u0 l0) hs0 hn0 hfb.symm :
    (∀ (m : Nat) (e : Ex), e.size < m → e.nok → fb = numF m e →
    WR2 _ _ _ _ _ m [(1, .one (.ptr 0 0))] [.var (e.row.map .d)]) → _) ?_
  intro m
  induction m with
  | zero => intro e h; omega
  | succ m ih =>
    intro e hs hn hr
    have c1 := whatR e
    have hin := whatF_in e
    have c4 := oneR e (by obtain ⟨_, _, nm, _, _⟩ := e; exact hn.1)
    have hf : numF (m + 1) e = (if e.kind = 8 then (match whatF e with
      | .pr a b => oneF b && numF m a
      | _ => false) else oneF e) := rfl
    rw [hf] at hr
    obtain ⟨kd, o, n, u, l⟩ := e
    by_cases h8 : kd = 8
    · subst h8
      have hr' : fb = (match whatF (.mk 8 o n u l) with
        | .pr a b => oneF b && numF m a
        | _ => false) := by rw [hr]; rfl
      cases hw : whatF (.mk 8 o n u l) with
      | pr x y =>
        rw [hw] at c1 hin hr'
        have hk : l = [x, y] := hin.2
        subst hk
        have c3 := oneR y (by have := hn.2; obtain ⟨_, _, nm, _, _⟩ := y; exact this.2.1.1)
        have hsx : x.size < m := by simp only [Ex.size, Ex.sizes] at hs; omega
        have g := ih x hsx hn.2.1
        obtain ⟨k1, o1, n1, u1, l1⟩ := x
        obtain ⟨k2, o2, n2, u2, l2⟩ := y
        refine wR (gI ?_)
        repeat' (first | ((first | refine C_r ?_ | refine C0_r ?_ | refine O_r ?_ | refine R_r ?_); (conv => whnf); first | (refine ⟨fun hb => ?_, fun hb => ?_⟩ <;> try exact no_way) | refine A_o ?_ | refine B_o ?_ | refine C_o ?_ | refine R_o ?_ | refine fR ?_ | refine fRk ?_ | refine F_o ?_) | refine C_l (c1) ?_ | refine B_l (c3) (fun h3 => ?_) fun h3 => ?_ | refine SA_l ?_ | refine V_l ?_ | refine L_l ?_ | refine Q_l ?_ | refine X_l ?_ | refine Xa_l ?_ | refine Xs_l ?_ | refine K_l ?_ | refine Ka_l ?_ | refine Lk_l ?_ | refine Up_l ?_ | refine Del_l ?_ | refine St_l ?_ | refine LU_l ?_ | refine Xw_l ?_ | refine Le_l ?_ | refine Se_l ?_ | refine M_l ?_ | refine A_l ?_ | refine A0_l ?_ | refine A1_l ?_ | refine Mk_l ?_ | refine Kz_l ?_ | refine W_l ?_ | fail)
        · exact rE (g (by rw [hr']; simp only [h3, Bool.true_and]))
        · exact ⟨by rw [hr']; simp only [h3]; rfl, rfl⟩
      | none =>
        rw [hw] at c1 hr'
        refine wR (gI ?_)
        refine ST (wc c1 wz) ?_ <;> (repeat' (first | exact Wl.mk | refine wy1 ?_ ?_)) <;> repeat (intro hb; have hx := wy5 hb; clear hx)
        all_goals exact ⟨by rw [hr']; rfl, rfl⟩
      | num => rw [hw] at hin; simp [Ex.kind] at hin
      | nam => rw [hw] at hin; simp [Ex.kind] at hin
      | msk x => rw [hw] at hin; simp [Ex.kind] at hin
      | sg x => rw [hw] at hin; simp [Ex.kind] at hin
    · have hr' : fb = oneF (.mk kd o n u l) := by rw [hr]; exact if_neg h8
      refine wR (gI ?_)
      repeat' (first | ((first | refine C_r ?_ | refine C0_r ?_ | refine O_r ?_ | refine R_r ?_); (conv => whnf); first | (refine ⟨fun hb => ?_, fun hb => ?_⟩ <;> try exact no_way) | refine A_o ?_ | refine B_o ?_ | refine C_o ?_ | refine R_o ?_ | refine fR ?_ | refine fRk ?_ | refine F_o ?_) | refine B_l (c4) (fun h4 => ?_) fun h4 => ?_ | refine SA_l ?_ | refine V_l ?_ | refine L_l ?_ | refine Q_l ?_ | refine X_l ?_ | refine Xa_l ?_ | refine Xs_l ?_ | refine K_l ?_ | refine Ka_l ?_ | refine Lk_l ?_ | refine Up_l ?_ | refine Del_l ?_ | refine St_l ?_ | refine LU_l ?_ | refine Xw_l ?_ | refine Le_l ?_ | refine Se_l ?_ | refine M_l ?_ | refine A_l ?_ | refine A0_l ?_ | refine A1_l ?_ | refine Mk_l ?_ | refine Kz_l ?_ | refine W_l ?_ | fail)
      · exact ⟨by rw [hr', h4]; rfl, rfl⟩
      · exact ⟨by rw [hr', h4]; rfl, rfl⟩
end Go.Proofs.YtjjhckmnnaafkaaDoor
