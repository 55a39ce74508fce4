/- A part of a proof: functions of the program walked over the abstract machine, and what they compute. -/
import Derived.Test.YtjjhckmnnaafkaaGreatDoorPWAs
import Derived.Test.YtjjhckmnnaafkaaGreatDoorPWAq
import Derived.Test.YtjjhckmnnaafkaaGreatDoorPWAo
set_option linter.unusedVariables false
set_option linter.unusedSimpArgs false
namespace Go.Proofs.YtjjhckmnnaafkaaGreatDoor
open Go Go.Am Go.Proofs
/-! what data of the program's kinds looks like -/
theorem list_typed {α : Type} {f : α → List D} {p : α → Prop} {t : TypeId} : ∀ {rows : List (List D)}, (∀ row ∈ rows, Typed Tryz.prog t row → ∃ x, row = f x ∧ p x) → (∀ row ∈ rows, Typed Tryz.prog t row) → ∃ l : List α, rows = l.map f ∧ ∀ x ∈ l, p x
  | [], _, _ => ⟨[], rfl, fun x hx => by simp at hx⟩
  | r :: rows, h, hr => by
    obtain ⟨x, rfl, hx⟩ := h r (by simp) (hr r (by simp))
    obtain ⟨l, rfl, hl⟩ := list_typed (rows := rows) (fun row hrow => h row (by simp [hrow])) fun row hrow => hr row (List.mem_cons_of_mem _ hrow)
    exact ⟨x :: l, rfl, fun y hy => by
      rcases List.mem_cons.1 hy with rfl | hy
      · exact hx
      · exact hl y hy⟩
theorem str_typed {xs : List D} (h : Typed Tryz.prog 9 xs) : ∃ s : ByteArray, xs = strow s ∧ s.size < 2 ^ 47 := by
  obtain ⟨s, rfl, hs⟩ := h.str_inv Tryz.underlying9
  exact ⟨s, rfl, by have : reachBytes = 140737488351232 := rfl; omega⟩
theorem strs_typed {xs : List D} (h : Typed Tryz.prog 24 xs) : ∃ l : List ByteArray, xs = [.list (l.map strow)] ∧ l.length * 16 ≤ 2 ^ 47 := by
  obtain ⟨rows, rfl, hr, hs⟩ := h.slice_inv Tryz.underlying24
  obtain ⟨l, rfl, hl⟩ := list_typed (fun _ _ h => str_typed h) hr
  have hb : Tryz.prog.bytesOf 9 = 16 := by kernel_rfl
  rw [hb, List.length_map] at hs
  exact ⟨l, rfl, by have : reachBytes = 140737488351232 := rfl; omega⟩
theorem ex_typed : ∀ (n : Nat) {xs : List D}, SizeOf.sizeOf xs < n → Typed Tryz.prog 76 xs → ∃ x : Ex, xs = x.row ∧ x.ok := by
  intro n
  induction n with
  | zero => intro xs h; omega
  | succ n IH =>
  intro xs hsz h
  obtain ⟨xss, rfl, hn, hf⟩ := h.struct_inv Tryz.underlying76
  rcases xss with _ | ⟨a, _ | ⟨b, _ | ⟨c, _ | ⟨d, _ | ⟨e, _ | ⟨g, r⟩⟩⟩⟩⟩⟩
  all_goals try (simp at hn; done)
  obtain ⟨n0, rfl, _⟩ := (hf 0 _ a rfl rfl).int_inv Tryz.underlying3
  obtain ⟨s1, rfl, _⟩ := (hf 1 _ b rfl rfl).str_inv Tryz.underlying9
  obtain ⟨s2, rfl, _⟩ := (hf 2 _ c rfl rfl).str_inv Tryz.underlying9
  obtain ⟨n3, rfl, _⟩ := (hf 3 _ d rfl rfl).int_inv Tryz.underlying50
  obtain ⟨rows, rfl, hr, hs⟩ := (hf 4 _ e rfl rfl).slice_inv Tryz.underlying40
  have hb : Tryz.prog.bytesOf 76 = 72 := by kernel_rfl
  rw [hb] at hs
  obtain ⟨l, rfl, hl⟩ := list_typed (f := Ex.row) (p := Ex.ok) (fun row hrow ht => by
    refine IH ?_ ht
    have h1 := List.sizeOf_lt_of_mem hrow
    simp at hsz
    omega) hr
  rw [List.length_map] at hs
  refine ⟨.mk n0 s1 s2 n3 l, by simp [Ex.row, Ex.rows_eq], by have : reachBytes = 140737488351232 := rfl; omega, ?_⟩
  clear hs hr hf hsz h hn
  induction l with
  | nil => trivial
  | cons x l ih => exact ⟨hl x (by simp), ih fun y hy => hl y (by simp [hy])⟩
theorem exs_typed {xs : List D} (h : Typed Tryz.prog 40 xs) : ∃ l : List Ex, xs = [.list (l.map Ex.row)] ∧ l.length * 72 ≤ 2 ^ 47 ∧ Ex.oks l := by
  obtain ⟨rows, rfl, hr, hs⟩ := h.slice_inv Tryz.underlying40
  obtain ⟨l, rfl, hl⟩ := list_typed (fun _ _ h => ex_typed _ (Nat.lt_succ_self _) h) hr
  have hb : Tryz.prog.bytesOf 76 = 72 := by kernel_rfl
  rw [hb, List.length_map] at hs
  refine ⟨l, rfl, by have : reachBytes = 140737488351232 := rfl; omega, ?_⟩
  clear hs hr h
  induction l with
  | nil => trivial
  | cons x l ih => exact ⟨hl x (by simp), ih fun y hy => hl y (by simp [hy])⟩
theorem rule_typed {xs : List D} (h : Typed Tryz.prog 42 xs) : ∃ x : Rule, xs = x.row ∧ x.ok := by
  obtain ⟨xss, rfl, hn, hf⟩ := h.struct_inv Tryz.underlying42
  rcases xss with _ | ⟨a, _ | ⟨b, _ | ⟨c, _ | ⟨d, r⟩⟩⟩⟩
  all_goals try (simp at hn; done)
  obtain ⟨s0, rfl, _⟩ := str_typed (hf 0 _ a rfl rfl)
  obtain ⟨l1, rfl, h1⟩ := strs_typed (hf 1 _ b rfl rfl)
  obtain ⟨l2, rfl, h2⟩ := exs_typed (hf 2 _ c rfl rfl)
  exact ⟨⟨s0, l1, l2⟩, rfl, h1, h2⟩
theorem act_typed {xs : List D} (h : Typed Tryz.prog 26 xs) : ∃ x : Act, xs = x.row := by
  obtain ⟨xss, rfl, hn, hf⟩ := h.struct_inv Tryz.underlying26
  rcases xss with _ | ⟨a, _ | ⟨b, _ | ⟨c, r⟩⟩⟩
  all_goals try (simp at hn; done)
  obtain ⟨n0, rfl, _⟩ := (hf 0 _ a rfl rfl).int_inv Tryz.underlying3
  obtain ⟨n1, rfl, _⟩ := (hf 1 _ b rfl rfl).int_inv Tryz.underlying3
  exact ⟨⟨n0, n1⟩, rfl⟩
theorem part_typed {xs : List D} (h : Typed Tryz.prog 45 xs) : ∃ x : Part, xs = x.row ∧ x.ok := by
  obtain ⟨xss, rfl, hn, hf⟩ := h.struct_inv Tryz.underlying45
  rcases xss with _ | ⟨a, _ | ⟨b, _ | ⟨c, _ | ⟨d, r⟩⟩⟩⟩
  all_goals try (simp at hn; done)
  obtain ⟨s0, rfl, _⟩ := str_typed (hf 0 _ a rfl rfl)
  obtain ⟨a1, rfl⟩ := act_typed (hf 1 _ b rfl rfl)
  obtain ⟨rows, rfl, hr, hs⟩ := (hf 2 _ c rfl rfl).slice_inv Tryz.underlying43
  obtain ⟨l, rfl, hl⟩ := list_typed (fun _ _ h => rule_typed h) hr
  have hb : Tryz.prog.bytesOf 42 = 64 := by kernel_rfl
  rw [hb, List.length_map] at hs
  exact ⟨⟨s0, a1, l⟩, rfl, by simp only; have : reachBytes = 140737488351232 := rfl; omega, hl⟩
def Pol.ok (p : Pol) : Prop := p.parts.length * 56 ≤ 2 ^ 47 ∧ ∀ x ∈ p.parts, x.ok
theorem pol_typed {xs : List D} (h : Typed Tryz.prog 48 xs) : ∃ x : Pol, xs = x.row ∧ x.ok := by
  obtain ⟨xss, rfl, hn, hf⟩ := h.struct_inv Tryz.underlying48
  rcases xss with _ | ⟨a, _ | ⟨b, _ | ⟨c, r⟩⟩⟩
  all_goals try (simp at hn; done)
  obtain ⟨s0, rfl, _⟩ := str_typed (hf 0 _ a rfl rfl)
  obtain ⟨rows, rfl, hr, hs⟩ := (hf 1 _ b rfl rfl).slice_inv Tryz.underlying46
  obtain ⟨l, rfl, hl⟩ := list_typed (fun _ _ h => part_typed h) hr
  have hb : Tryz.prog.bytesOf 45 = 56 := by kernel_rfl
  rw [hb, List.length_map] at hs
  exact ⟨⟨s0, l⟩, rfl, by simp only; have : reachBytes = 140737488351232 := rfl; omega, hl⟩
theorem pols_typed {xs : List D} (h : Typed Tryz.prog 23 xs) : ∃ l : List Pol, xs = [.list (l.map Pol.row)] ∧ l.length * 40 ≤ 2 ^ 47 ∧ ∀ p ∈ l, p.ok := by
  obtain ⟨rows, rfl, hr, hs⟩ := h.slice_inv Tryz.underlying23
  obtain ⟨l, rfl, hl⟩ := list_typed (fun _ _ h => pol_typed h) hr
  have hb : Tryz.prog.bytesOf 48 = 40 := by kernel_rfl
  rw [hb, List.length_map] at hs
  exact ⟨l, rfl, by have : reachBytes = 140737488351232 := rfl; omega, hl⟩
end Go.Proofs.YtjjhckmnnaafkaaGreatDoor
namespace Go.Proofs.YtjjhckmnnaafkaaGreatDoor
open Go Go.Am Go.Proofs
attribute [local irreducible] W WL DL WO RoundEnd
set_option maxRecDepth 10000
set_option maxHeartbeats 4000000
theorem namesF_out {P : Part → Prop} (m : AL (List Part)) (hm : ∀ p ∈ m, ∀ x ∈ p.2, P x) (n : Nat) : ∀ (names : List ByteArray) (s : Fl), s.ok → s.alls P → (namesF (polF m n) s names).1 = 0 → (namesF (polF m n) s names).2.ok ∧ (namesF (polF m n) s names).2.alls P
  | [], s, h1, h2, _ => ⟨h1, h2⟩
  | x :: r, s, h1, h2, h => by
    simp only [namesF] at h ⊢
    by_cases hz : (polF m n s x).1 = 0
    · rw [if_pos hz] at h ⊢
      exact namesF_out m hm n r _ (polF_good m n s x h1 hz).1 (polF_alls m hm n s x h2) h
    · rw [if_neg hz] at h; exact absurd h hz
theorem flatF_out (l : List Pol) (names : List ByteArray) (hr : ∀ p ∈ l, ∀ x ∈ p.parts, x.ok) : (flatF l names).1.length ≤ 500 ∧ ∀ x ∈ (flatF l names).1, x.ok := by
  unfold flatF
  split
  · exact ⟨by simp, by intro x hx; simp at hx⟩
  · simp only
    have h := namesF_out (P := Part.ok) (polsM l) (by intro p hp; obtain ⟨q, hq, rfl⟩ := List.mem_map.1 hp; exact hr q hq) (l.length + 1) names startF ⟨by decide, by intro p hp; cases hp⟩ ⟨(by intro p hp; cases hp), (by intro p hp; cases hp)⟩
    split
    · rename_i hz
      have h := h hz
      refine ⟨by simpa using h.1.1, fun x hx => ?_⟩
      obtain ⟨y, hy, rfl⟩ := List.mem_map.1 hx
      exact h.2.1 y hy
    · exact ⟨by simp, by intro x hx; simp at hx⟩
end Go.Proofs.YtjjhckmnnaafkaaGreatDoor
namespace Go.Proofs.YtjjhckmnnaafkaaGreatDoor
open Go Go.Am Go.Proofs
set_option maxRecDepth 10000
/-- a comparison of an argument -/
structure Atm where
  arg : Int
  op : Int
  mask : Int
  val : Int
  deriving DecidableEq
def atm0 : Atm := ⟨0, 0, 0, 0⟩
/-- a condition of arguments -/
inductive Cd where
  | mk (kind : Int) (atm : Atm) (kids : List Cd)
mutual
def Cd.row : Cd → List D
  | .mk k a l => [.sc (.int .i64 k), .sc (.int .i64 a.arg), .sc (.int .i64 a.op), .sc (.int .u64 a.mask), .sc (.int .u64 a.val), .list (Cd.rows l)]
def Cd.rows : List Cd → List (List D)
  | [] => []
  | x :: l => Cd.row x :: Cd.rows l
end
theorem Cd.rows_eq : ∀ l : List Cd, Cd.rows l = l.map Cd.row
  | [] => rfl
  | x :: l => by rw [Cd.rows, Cd.rows_eq l]; rfl
def cd0 : Cd := .mk 0 atm0 []
/-- a rule of a number -/
structure Bd where
  nr : Int
  act : Act
  cond : Cd
def Bd.row (x : Bd) : List D := .sc (.int .u32 x.nr) :: .sc (.int .i64 x.act.kind) :: .sc (.int .i64 x.act.data) :: x.cond.row
def bd0 : Bd := ⟨0, ⟨0, 0⟩, cd0⟩
/-- what a number stands for: its constants are known -/
def valOf (ds : List Def) (e : Ex) : Int × Int := cofF (learnF [] ds) e
def allBits : Int := 18446744073709551615
def kid0 : Ex → Ex
  | .mk _ _ _ _ (x :: _) => x
  | x => x
def kid1 : Ex → Ex
  | .mk _ _ _ _ (_ :: y :: _) => y
  | x => x
def maskF (ds : List Def) (k : Ex) : Int × Int := if k.kind = 6 then valOf ds (kid0 k) else (allBits, 0)
/-- a comparison -/
def atomF (ds : List Def) (ps : List ByteArray) (e : Ex) : Cd × Int :=
  if ixF (kid0 e).name ps 0 < 0 then (cd0, 7)
  else if (maskF ds (kid0 e)).2 = 0 then
    (if (valOf ds (kid1 e)).2 = 0 then (.mk 5 ⟨ixF (kid0 e).name ps 0, opF e.op, (maskF ds (kid0 e)).1, (valOf ds (kid1 e)).1⟩ [], 0) else (cd0, (valOf ds (kid1 e)).2))
  else (cd0, (maskF ds (kid0 e)).2)
def ckF (k : Int) : Int := if k = 1 then 4 else if k = 2 then 3 else 2
mutual
/-- a condition -/
def cndF (ds : List Def) (ps : List ByteArray) : Ex → Cd × Int
  | .mk k o n u l => if k = 4 then atomF ds ps (.mk k o n u l) else
    (if (cndsF ds ps l []).2 = 0 then (.mk (ckF k) atm0 (cndsF ds ps l []).1, 0) else (cd0, (cndsF ds ps l []).2))
def cndsF (ds : List Def) (ps : List ByteArray) : List Ex → List Cd → List Cd × Int
  | [], out => (out, 0)
  | x :: r, out => if (cndF ds ps x).2 = 0 then cndsF ds ps r (out ++ [(cndF ds ps x).1]) else ([], (cndF ds ps x).2)
end
/-- what a condition must be like for its parts to be there -/
def cmpOk (e : Ex) : Prop := ∃ o n u k v, e = .mk 4 o n u [k, v] ∧ (k.kind = 6 → ∃ o n u x, k = .mk 6 o n u [x])
mutual
def condOk : Ex → Prop
  | .mk k o n u l => (k = 4 → cmpOk (.mk k o n u l)) ∧ (k = 4 ∨ ((k = 1 ∨ k = 2 ∨ k = 3) ∧ condsOk l))
def condsOk : List Ex → Prop
  | [] => True
  | x :: l => condOk x ∧ condsOk l
end
theorem condsOk_mem : ∀ {l : List Ex} {x : Ex}, condsOk l → x ∈ l → condOk x
  | [], _, _, h => by simp at h
  | y :: l, x, h, hm => by
    rcases List.mem_cons.1 hm with rfl | hm
    · exact h.1
    · exact condsOk_mem h.2 hm
/-- is a text there twice? -/
def dupS : List ByteArray → List ByteArray → Bool
  | _, [] => false
  | d, x :: r => if d.any (x == ·) then true else dupS (d ++ [x]) r
/-- a rule's params -/
def paramsF (rp cp : List ByteArray) : List ByteArray × Int :=
  if rp.length > cp.length then ([], 9) else if dupS [] rp then ([], 8) else (rp ++ cp.drop rp.length, 0)
/-- a rule -/
def bruleF (ds : List Def) (c : Option (Int × List ByteArray)) (r : Rule) (a : Act) : Bd × Int :=
  match c with
  | none => (bd0, 7)
  | some (nr, cp) => if (paramsF r.params cp).2 = 0 then
      (match r.cond with
      | [] => (⟨nr, a, .mk 1 atm0 []⟩, 0)
      | x :: _ => if (cndF ds (paramsF r.params cp).1 x).2 = 0 then (⟨nr, a, (cndF ds (paramsF r.params cp).1 x).1⟩, 0) else (bd0, (cndF ds (paramsF r.params cp).1 x).2))
    else (bd0, (paramsF r.params cp).2)
/-- all rules of a part, of all parts -/
def brulesF (g : Rule → Act → Bd × Int) (a : Act) : List Rule → List Bd → List Bd × Int
  | [], out => (out, 0)
  | r :: l, out => if (g r a).2 = 0 then brulesF g a l (out ++ [(g r a).1]) else ([], (g r a).2)
def bpartsF (g : Rule → Act → Bd × Int) : List Part → List Bd → List Bd × Int
  | [], out => (out, 0)
  | p :: l, out => if (brulesF g p.act p.rules out).2 = 0 then bpartsF g l (brulesF g p.act p.rules out).1 else ([], (brulesF g p.act p.rules out).2)
end Go.Proofs.YtjjhckmnnaafkaaGreatDoor
namespace Go.Proofs.YtjjhckmnnaafkaaGreatDoor
open Go Go.Am Go.Proofs
theorem num_fuel : ∀ (n n' : Nat) (e : Ex), e.size < n → e.size < n' → numF n e = numF n' e
  | 0, _, e, h, _ => by omega
  | _ + 1, 0, e, _, h => by omega
  | n + 1, n' + 1, e, h1, h2 => by
    rw [numF, numF]
    split
    · have hin := whatF_in e
      cases hw : whatF e with
      | pr a b =>
        rw [hw] at hin
        obtain ⟨k, o, nm, u, l⟩ := e
        have hl : l = [a, b] := hin.2
        subst hl
        simp only [Ex.size, Ex.sizes] at h1 h2
        dsimp only
        rw [num_fuel n n' a (by omega) (by omega)]
      | none => rfl
      | num => rfl
      | nam => rfl
      | msk x => rfl
      | sg x => rfl
    · rfl
theorem cval_7 (m : KM) (n : Nat) (o nm : ByteArray) (u : Int) (l : List Ex) : cvalF m (n + 1) (.mk 7 o nm u l) = (u, 0) := by
  rcases l with _ | ⟨x, _ | ⟨y, _ | ⟨z, r⟩⟩⟩ <;> simp [cvalF]
theorem cval_8 (m : KM) (n : Nat) (o nm : ByteArray) (u : Int) (x y : Ex) : cvalF m (n + 1) (.mk 8 o nm u [x, y]) = if (cvalF m n x).2 = 0 then (if (cvalF m n y).2 = 0 then (or64 (cvalF m n x).1 (cvalF m n y).1, 0) else cvalF m n y) else cvalF m n x := by
  rw [cvalF, if_neg (by decide), if_pos rfl]
theorem cval_8n (m : KM) (n : Nat) (o nm : ByteArray) (u : Int) (l : List Ex) (h : ∀ x y, l ≠ [x, y]) : cvalF m (n + 1) (.mk 8 o nm u l) = (0, 0) := by
  rcases l with _ | ⟨x, _ | ⟨y, _ | ⟨z, r⟩⟩⟩
  · simp [cvalF]
  · simp [cvalF]
  · exact absurd rfl (h x y)
  · simp [cvalF]
theorem cval_5 (m : KM) (n : Nat) (k : Int) (o nm : ByteArray) (u : Int) (l : List Ex) (h7 : k ≠ 7) (h8 : k ≠ 8) : cvalF m (n + 1) (.mk k o nm u l) = ((fk nm m 0).map (·.2)).getD (0, 7) := by
  cases hk : fk nm m 0 with
  | none => rcases l with _ | ⟨x, _ | ⟨y, _ | ⟨z, r⟩⟩⟩ <;> simp [cvalF, h7, h8, hk]
  | some p => rcases l with _ | ⟨x, _ | ⟨y, _ | ⟨z, r⟩⟩⟩ <;> simp [cvalF, h7, h8, hk]
theorem cval_fuel (m : KM) : ∀ (n n' : Nat) (e : Ex), e.size < n → e.size < n' → cvalF m n e = cvalF m n' e
  | 0, _, e, h, _ => by omega
  | _ + 1, 0, e, _, h => by omega
  | n + 1, n' + 1, .mk k o nm u l, h1, h2 => by
    by_cases h7 : k = 7
    · subst h7; rw [cval_7, cval_7]
    by_cases h8 : k = 8
    · subst h8
      by_cases hl : ∃ x y, l = [x, y]
      · obtain ⟨x, y, rfl⟩ := hl
        simp only [Ex.size, Ex.sizes] at h1 h2
        rw [cval_8, cval_8, cval_fuel m n n' x (by omega) (by omega), cval_fuel m n n' y (by omega) (by omega)]
      · rw [cval_8n _ _ _ _ _ _ (fun x y h => hl ⟨x, y, h⟩), cval_8n _ _ _ _ _ _ (fun x y h => hl ⟨x, y, h⟩)]
    · rw [cval_5 _ _ _ _ _ _ _ h7 h8, cval_5 _ _ _ _ _ _ _ h7 h8]
theorem cof_num (m : KM) (o nm : ByteArray) (u : Int) (l : List Ex) (h : numF (Ex.size (.mk 7 o nm u l) + 1) (.mk 7 o nm u l) = true) : cofF m (.mk 7 o nm u l) = (u, 0) := by
  rw [cofF, if_pos h, cval_7]
theorem cof_none (m : KM) (e : Ex) (h : numF (e.size + 1) e = false) : cofF m e = (0, 1) := by
  rw [cofF, h]; rfl
theorem cof_name (m : KM) (o nm : ByteArray) (u : Int) (l : List Ex) (h : numF (Ex.size (.mk 5 o nm u l) + 1) (.mk 5 o nm u l) = true) : cofF m (.mk 5 o nm u l) = (((fk nm m 0).map (·.2)).getD (0, 7)) := by
  rw [cofF, if_pos h, cval_5 _ _ _ _ _ _ _ (by decide) (by decide)]
/-- a number of two -/
theorem num_two {o nm : ByteArray} {u : Int} {l : List Ex} (h : numF (Ex.size (.mk 8 o nm u l) + 1) (.mk 8 o nm u l) = true) : ∃ x y, l = [x, y] ∧ numF (x.size + 1) x = true ∧ numF (y.size + 1) y = true := by
  rw [numF, if_pos (show (Ex.mk 8 o nm u l).kind = 8 from rfl)] at h
  have hin := whatF_in (.mk 8 o nm u l)
  cases hw : whatF (.mk 8 o nm u l) with
  | pr x y =>
    rw [hw] at hin h
    have hl : l = [x, y] := hin.2
    subst hl
    simp only [Bool.and_eq_true] at h
    refine ⟨x, y, rfl, ?_, ?_⟩
    · rw [← h.2]
      exact num_fuel _ _ x (by omega) (by simp only [Ex.size, Ex.sizes]; omega)
    · rw [numF, if_neg (by rcases one_kind h.1 with h | h <;> rw [h] <;> decide)]
      exact h.1
  | none => rw [hw] at h; simp at h
  | num => rw [hw] at h; simp at h
  | nam => rw [hw] at h; simp at h
  | msk x => rw [hw] at h; simp at h
  | sg x => rw [hw] at h; simp at h
theorem cof_two (m : KM) {o nm : ByteArray} {u : Int} {x y : Ex} (h : numF (Ex.size (.mk 8 o nm u [x, y]) + 1) (.mk 8 o nm u [x, y]) = true) :
    cofF m (.mk 8 o nm u [x, y]) = if (cofF m x).2 = 0 then (if (cofF m y).2 = 0 then (or64 (cofF m x).1 (cofF m y).1, 0) else cofF m y) else cofF m x := by
  obtain ⟨x', y', hl, hx, hy⟩ := num_two h
  simp only [List.cons.injEq, and_true] at hl
  obtain ⟨rfl, rfl⟩ := hl
  have ex : cvalF m (Ex.size (.mk 8 o nm u [x, y])) x = cofF m x := by
    rw [cofF, if_pos hx]; exact cval_fuel m _ _ x (by simp only [Ex.size, Ex.sizes]; omega) (by omega)
  have ey : cvalF m (Ex.size (.mk 8 o nm u [x, y])) y = cofF m y := by
    rw [cofF, if_pos hy]; exact cval_fuel m _ _ y (by simp only [Ex.size, Ex.sizes]; omega) (by omega)
  rw [cofF, if_pos h, cval_8, ex, ey]
/-- what is none has no number -/
def errZ (m : KM) : Prop := ∀ p ∈ m, p.2.2 ≠ 0 → p.2.1 = 0
theorem cval_errZ {m : KM} (hm : errZ m) : ∀ (n : Nat) (e : Ex), (cvalF m n e).2 ≠ 0 → (cvalF m n e).1 = 0
  | 0, e, h => rfl
  | n + 1, .mk k o nm u l, h => by
    by_cases h7 : k = 7
    · subst h7; rw [cval_7] at h; exact absurd rfl h
    by_cases h8 : k = 8
    · subst h8
      by_cases hl : ∃ x y, l = [x, y]
      · obtain ⟨x, y, rfl⟩ := hl
        rw [cval_8] at h ⊢
        split at h
        · rename_i h1
          rw [if_pos h1]
          split at h
          · exact absurd rfl h
          · rename_i h2
            rw [if_neg h2]
            exact cval_errZ hm n y h2
        · rename_i h1
          rw [if_neg h1]
          exact cval_errZ hm n x h1
      · rw [cval_8n _ _ _ _ _ _ (fun x y h => hl ⟨x, y, h⟩)]
    · rw [cval_5 _ _ _ _ _ _ _ h7 h8] at h ⊢
      cases hk : fk nm m 0 with
      | none => rfl
      | some p =>
        obtain ⟨i, v⟩ := p
        rw [hk] at h
        obtain ⟨q, _, hq⟩ := fk_spec hk
        exact hm _ (List.mem_of_getElem? hq) h
theorem cof_errZ {m : KM} (hm : errZ m) (e : Ex) (h : (cofF m e).2 ≠ 0) : (cofF m e).1 = 0 := by
  unfold cofF at h ⊢
  split
  · rename_i hn
    rw [if_pos hn] at h
    exact cval_errZ hm _ e h
  · rfl
/-- one constant more -/
def stepM (m : KM) (d : Def) : KM := match fk d.name m 0 with
  | some _ => m
  | none => m ++ [(d.name, cofF m d.expr)]
theorem learn_cons (m : KM) (d : Def) (r : List Def) : learnF m (d :: r) = learnF (stepM m d) r := by
  rw [learnF, stepM]
  cases fk d.name m 0 <;> rfl
theorem learn_app (m : KM) : ∀ (a b : List Def), learnF m (a ++ b) = learnF (learnF m a) b
  | [], b => by rw [learnF]; rfl
  | d :: a, b => by
    rw [List.cons_append, learn_cons, learn_cons, learn_app (stepM m d) a b]
termination_by a => a.length
theorem step_errZ {m : KM} (hm : errZ m) (d : Def) : errZ (stepM m d) := by
  unfold stepM
  split
  · exact hm
  · intro p hp
    rcases List.mem_append.1 hp with hp | hp
    · exact hm p hp
    · simp only [List.mem_singleton] at hp
      subst hp
      exact cof_errZ hm d.expr
theorem learn_errZ : ∀ (l : List Def) (m : KM), errZ m → errZ (learnF m l)
  | [], m, h => h
  | d :: r, m, h => by rw [learn_cons]; exact learn_errZ r _ (step_errZ h d)
theorem learn_errZ0 (l : List Def) : errZ (learnF [] l) := learn_errZ l [] (by intro p hp; cases hp)
def lk (nm : ByteArray) (m : KM) : Option (Int × Int) := (fk nm m 0).map (·.2)
theorem lk_app (nm : ByteArray) (m r : KM) : lk nm (m ++ r) = (match lk nm m with | some v => some v | none => lk nm r) := by
  unfold lk
  rw [← look_fk, ← look_fk, ← look_fk, look_app]
  cases look m nm <;> rfl
theorem step_some {nm : ByteArray} {m : KM} {d : Def} {v : Int × Int} (h : lk nm m = some v) : lk nm (stepM m d) = some v := by
  unfold stepM
  split
  · exact h
  · rw [lk_app, h]
theorem step_none {nm : ByteArray} {m : KM} {d : Def} (h : lk nm m = none) (hn : d.name ≠ nm) : lk nm (stepM m d) = none := by
  unfold stepM
  split
  · exact h
  · rw [lk_app, h]
    show lk nm [(d.name, _)] = none
    simp [lk, fk, Ne.symm hn]
theorem step_new {nm : ByteArray} {m : KM} {d : Def} (h : lk nm m = none) (hn : d.name = nm) : lk nm (stepM m d) = some (cofF m d.expr) := by
  unfold stepM
  split
  · rename_i hk
    subst hn
    unfold lk at h
    rw [hk] at h
    cases h
  · rw [lk_app, h]
    subst hn
    simp [lk, fk]
theorem learn_some {nm : ByteArray} {v : Int × Int} : ∀ (l : List Def) (m : KM), lk nm m = some v → lk nm (learnF m l) = some v
  | [], m, h => h
  | d :: r, m, h => by rw [learn_cons]; exact learn_some r _ (step_some h)
/-- the first constant of a name -/
def lkM (nm : ByteArray) : KM → List Def → Option (Int × Int)
  | _, [] => none
  | m, d :: r => if d.name == nm then some (cofF m d.expr) else lkM nm (stepM m d) r
theorem look_learn (nm : ByteArray) : ∀ (l : List Def) (m : KM), lk nm m = none → lk nm (learnF m l) = lkM nm m l
  | [], m, h => h
  | d :: r, m, h => by
    rw [learn_cons, lkM]
    by_cases hn : d.name = nm
    · rw [if_pos (by rw [ba_beq]; simpa using hn)]
      exact learn_some r _ (step_new h hn)
    · rw [if_neg (by rw [ba_beq]; simpa using hn)]
      exact look_learn nm r _ (step_none h hn)
theorem lkM_none (nm : ByteArray) : ∀ (l : List Def) (m : KM), (lkM nm m l).isSome = l.any (fun d => d.name == nm)
  | [], m => rfl
  | d :: r, m => by
    rw [lkM, List.any_cons]
    cases h : d.name == nm with
    | true => rfl
    | false =>
      rw [if_neg (by decide), lkM_none nm r, Bool.false_or]
/-- is a name known already? -/
theorem learn_any (nm : ByteArray) (l : List Def) : (fk nm (learnF [] l) 0).isSome = l.any (fun d => d.name == nm) := by
  have h := look_learn nm l [] rfl
  rw [← lkM_none nm l [], ← h]
  unfold lk
  cases fk nm (learnF [] l) 0 <;> rfl
theorem learn_snoc (l : List Def) (d : Def) : learnF [] (l ++ [d]) = stepM (learnF [] l) d := by
  rw [learn_app, learn_cons, learnF]
end Go.Proofs.YtjjhckmnnaafkaaGreatDoor
namespace Go.Proofs.YtjjhckmnnaafkaaGreatDoor
open Go Go.Am Go.Proofs
attribute [local irreducible] W WL DL WO RoundEnd
set_option maxRecDepth 10000
set_option maxHeartbeats 4000000
def cvV (q : Int × Int) : V := .tup [.one (.d (.sc (.int .u64 q.1))), .one (.d (.sc (.int .i64 q.2)))]
def tabV (q : (List Int × Int) × Int) : V := .tup [.one (.d (.list (q.1.1.map u64row))), .one (.d (.sc (.int .i64 q.1.2))), .one (.d (.sc (.int .i64 q.2)))]
theorem underE2 {E : List (Value × Am.FV)} (h : ∀ L, (E.all fun x => x.2.under L) = true) (r2 : List (List D)) : ([Ob.map E, .arr 0 false 1 r2].all fun o => o.under (alive [Ob.map E, .arr 0 false 1 r2])) = true := by
  simp only [List.all_cons, List.all_nil, Ob.under, h _, Bool.and_true]
theorem tableR (l : List Def) (hl : l.length ≤ 1000) (hn : ∀ d ∈ l, d.expr.nok) : Comp Tryz.prog 14 [lst Def.row l] (tabV (tableF [] [] 0 l)) := by
  generalize hfb : tableF [] [] 0 l = fb
  refine Spec.body (C := cx [(6, false)] 52) fits (fn := Tryz.f14) Tryz.func14 rfl (by decide) (by decide) (gI ?_)
  refine STD wz ?_ <;> (repeat' (first | exact Wl.mk | refine wy1 ?_ ?_)) <;> repeat (intro hb; have hx := wy5 hb; clear hx)
  refine wLoop [5, 6, 13, 14, 15] 2 (l.length + 1) ?_
  refine (fun key => key l [] 0 [] [] rfl rfl hfb.symm (Nat.le_refl _) :
    (∀ (rest done : List Def) (j : Nat) (m : KM) (out : List Int), l = done ++ rest → j = done.length → fb = tableF m out j rest → out.length ≤ j →
    WR2 _ _ _ _ _ (rest.length + 1) [(5, .one (.map 0)), (6, .one (.arr 1 0 (out.map u64row).length)), (13, lst Def.row l), (14, int .i64 (l.map Def.row).length), (15, int .i64 j)]
      [.map (ents encN m), .arr 0 false 1 (out.map u64row)]) → _) ?_
  intro rest
  induction rest with
  | nil =>
    intro done j m out h1 hj hr ho
    have hlen : l.length = done.length := by rw [h1]; simp
    refine wR (gI ?_)
    repeat' (first | refine fR ?_ (h6 := underE2 (pureN m) _) | ((first | refine C_r ?_ | refine C0_r ?_ | refine O_r ?_ | refine R_r ?_); (conv => whnf); first | (refine ⟨fun hb => ?_, fun hb => ?_⟩ <;> try exact no_way) | refine A_o ?_ | refine B_o ?_ | refine C_o ?_ | refine R_o ?_ | refine fR ?_ | refine fRk ?_ | refine F_o ?_) | refine SA_l ?_ | refine V_l ?_ | refine L_l ?_ | refine Q_l ?_ | refine X_l ?_ | refine Xa_l ?_ | refine Xs_l ?_ | refine K_l ?_ | refine Ka_l ?_ | refine Lk_l ?_ | refine Up_l ?_ | refine Del_l ?_ | refine St_l ?_ | refine LU_l ?_ | refine Xw_l ?_ | refine Le_l ?_ | refine Se_l ?_ | refine M_l ?_ | refine A_l ?_ | refine A0_l ?_ | refine A1_l ?_ | refine Mk_l ?_ | refine Kz_l ?_ | refine W_l ?_ | refine SA_d ?_ | refine V_d ?_ | refine L_d ?_ | refine Q_d ?_ | refine X_d ?_ | refine Xs_d ?_ | refine K_d ?_ | refine Ka_d ?_ | refine Lk_d ?_ | refine Up_d ?_ | refine A_d ?_ | refine A0_d ?_ | refine St_d ?_ | refine LU_d ?_ | refine Xw_d ?_ | refine Le_d ?_ | refine Se_d ?_ | refine M_d ?_ | refine Mk_d ?_ | refine N_d ?_ | refine Kz_d ?_ | refine W_d ?_ | fail)
    exact ⟨by rw [hr]; rfl, rfl⟩
  | cons x rest ih =>
    intro done j m out h1 hj hr ho
    have hlen : l.length = done.length + (rest.length + 1) := by rw [h1]; simp
    have hjx : l[((j : Nat) : Int).toNat]? = some x := by rw [h1, hj]; simp
    have g1 := at_of (f := Def.row) hjx
    have hc := cofR0 m x.expr (hn x (by rw [h1]; simp))
    rw [tableF] at hr
    rcases hk : fk x.name m 0 with _ | ⟨i1, k1⟩
    · rw [hk] at hr
      have hk2 : findKey (.string x.name) (ents encN m) 0 = some none := by rw [findKey_ents, hk]; rfl
      generalize cofF m x.expr = q at hc hr
      obtain ⟨q1, q2⟩ := q
      obtain ⟨xn, ⟨xk, xo, xm, xu, xl⟩⟩ := x
      refine wR (gI ?_)
      repeat' (first | refine fR ?_ (h6 := underE2 (pureN m) _) | ((first | refine C_r ?_ | refine C0_r ?_ | refine O_r ?_ | refine R_r ?_); (conv => whnf); first | (refine ⟨fun hb => ?_, fun hb => ?_⟩ <;> try exact no_way) | refine A_o ?_ | refine B_o ?_ | refine C_o ?_ | refine R_o ?_ | refine fR ?_ | refine fRk ?_ | refine F_o ?_) | refine fun k => WL.crp [0] [Ob.map (ents encN m)] _ _ hc (oW ?_ _) (underN0 m) (underR0 m) | refine SA_l ?_ | refine V_l ?_ | refine L_l ?_ | refine Q_l ?_ | refine X_l ?_ | refine Xa_l ?_ | refine Xs_l ?_ | refine K_l ?_ | refine Ka_l ?_ | refine Lk_l ?_ | refine Up_l ?_ | refine Del_l ?_ | refine St_l ?_ | refine LU_l ?_ | refine Xw_l ?_ | refine Le_l ?_ | refine Se_l ?_ | refine M_l ?_ | refine A_l ?_ | refine A0_l ?_ | refine A1_l ?_ | refine Mk_l ?_ | refine Kz_l ?_ | refine W_l ?_ | refine SA_d ?_ | refine V_d ?_ | refine L_d ?_ | refine Q_d ?_ | refine X_d ?_ | refine Xs_d ?_ | refine K_d ?_ | refine Ka_d ?_ | refine Lk_d ?_ | refine Up_d ?_ | refine A_d ?_ | refine A0_d ?_ | refine St_d ?_ | refine LU_d ?_ | refine Xw_d ?_ | refine Le_d ?_ | refine Se_d ?_ | refine M_d ?_ | refine Mk_d ?_ | refine N_d ?_ | refine Kz_d ?_ | refine W_d ?_ | fail)
      · have hz : ¬ q2 = 0 := by simpa using hb
        have hr2 : fb = (([], (j : Int)), q2) := by rw [hr]; exact if_neg hz
        exact ⟨by rw [hr2]; rfl, rfl⟩
      · have hz : q2 = 0 := by simpa using hb
        have hr2 : fb = tableF (m ++ [(xn, (q1, q2))]) (out ++ [q1]) (j + 1) rest := by rw [hr]; exact if_pos hz
        have g := ih (done ++ [⟨xn, Ex.mk xk xo xm xu xl⟩]) (j + 1) (m ++ [(xn, (q1, q2))]) (out ++ [q1]) (by rw [h1]; simp) (by rw [hj]; simp) hr2 (by simp; omega)
        have e1 : ((j + 1 : Nat) : Int) = IntKind.wrap .i64 ((j : Int) + 1) := by rw [wrap_ok (by omega) (by omega)]; rfl
        rw [ents_append, List.map_append, e1] at g
        exact rE g (ht := trimI rfl (underE2 (by intro L; simp only [mapSet, List.all_append, pureN, List.all_cons, List.all_nil]; rfl) _))
    · rw [hk] at hr
      have hk2 : findKey (.string x.name) (ents encN m) 0 = some (some (i1, encN k1)) := by rw [findKey_ents, hk]; rfl
      generalize cofF m x.expr = q at hc hr
      obtain ⟨q1, q2⟩ := q
      obtain ⟨k11, k12⟩ := k1
      obtain ⟨xn, ⟨xk, xo, xm, xu, xl⟩⟩ := x
      refine wR (gI ?_)
      repeat' (first | refine fR ?_ (h6 := underE2 (pureN m) _) | ((first | refine C_r ?_ | refine C0_r ?_ | refine O_r ?_ | refine R_r ?_); (conv => whnf); first | (refine ⟨fun hb => ?_, fun hb => ?_⟩ <;> try exact no_way) | refine A_o ?_ | refine B_o ?_ | refine C_o ?_ | refine R_o ?_ | refine fR ?_ | refine fRk ?_ | refine F_o ?_) | refine fun k => WL.crp [0] [Ob.map (ents encN m)] _ _ hc (oW ?_ _) (underN0 m) (underR0 m) | refine SA_l ?_ | refine V_l ?_ | refine L_l ?_ | refine Q_l ?_ | refine X_l ?_ | refine Xa_l ?_ | refine Xs_l ?_ | refine K_l ?_ | refine Ka_l ?_ | refine Lk_l ?_ | refine Up_l ?_ | refine Del_l ?_ | refine St_l ?_ | refine LU_l ?_ | refine Xw_l ?_ | refine Le_l ?_ | refine Se_l ?_ | refine M_l ?_ | refine A_l ?_ | refine A0_l ?_ | refine A1_l ?_ | refine Mk_l ?_ | refine Kz_l ?_ | refine W_l ?_ | refine SA_d ?_ | refine V_d ?_ | refine L_d ?_ | refine Q_d ?_ | refine X_d ?_ | refine Xs_d ?_ | refine K_d ?_ | refine Ka_d ?_ | refine Lk_d ?_ | refine Up_d ?_ | refine A_d ?_ | refine A0_d ?_ | refine St_d ?_ | refine LU_d ?_ | refine Xw_d ?_ | refine Le_d ?_ | refine Se_d ?_ | refine M_d ?_ | refine Mk_d ?_ | refine N_d ?_ | refine Kz_d ?_ | refine W_d ?_ | fail)
      have hr2 : fb = (([], (j : Int)), 8) := hr
      exact ⟨by rw [hr2]; rfl, rfl⟩
theorem def_len (d : Def) : d.row.length = 6 := by
  obtain ⟨_, ⟨_, _, _, _, _⟩⟩ := d; rfl
/-- the document's value of a number -/
theorem constD : ∀ (N : Nat) (l : List Def), l.length < N → l.length < 2 ^ 40 → (∀ d ∈ l, d.expr.nok) → ∀ (n : Nat) (e : Ex), e.size < n → e.nok → Comp Tryz.prog 47 [lst Def.row l, .agg (e.row.map .d)] (cvV (cofF (learnF [] l) e)) := by
  intro N
  induction N with
  | zero => intro l h; omega
  | succ N IHN =>
  intro l hl hlb hn n
  induction n with
  | zero => intro e h; omega
  | succ n IH =>
  intro e hs hnok
  have c1 := numberD (e.size + 1) e (Nat.lt_succ_self _) hnok
  cases hnum : numF (e.size + 1) e with
  | false =>
    rw [hnum] at c1
    rw [cof_none _ _ hnum]
    obtain ⟨k, o, nm, u, kl⟩ := e
    refine Spec.body (C := cx [] 74) fits (fn := Tryz.f47) Tryz.func47 rfl (by decide) (by decide) (gI ?_)
    refine STD (wc c1 wz) ?_ <;> (repeat' (first | exact Wl.mk | refine wy1 ?_ ?_)) <;> repeat (intro hb; have hx := wy5 hb; clear hx)
    exact ⟨rfl, rfl⟩
  | true =>
    rw [hnum] at c1
    obtain ⟨k, o, nm, u, kl⟩ := e
    by_cases h7 : k = 7
    · subst h7
      rw [cof_num _ _ _ _ _ hnum]
      refine Spec.body (C := cx [] 74) fits (fn := Tryz.f47) Tryz.func47 rfl (by decide) (by decide) (gI ?_)
      refine STD (wc c1 wz) ?_ <;> (repeat' (first | exact Wl.mk | refine wy1 ?_ ?_)) <;> repeat (intro hb; have hx := wy5 hb; clear hx)
      exact ⟨rfl, rfl⟩
    by_cases h8 : k = 8
    · subst h8
      obtain ⟨x, y, rfl, hx, hy⟩ := num_two hnum
      rw [cof_two _ hnum]
      simp only [Ex.size, Ex.sizes] at hs
      have c2 := IH x (by omega) hnok.2.1
      have c3 := IH y (by omega) hnok.2.2.1
      have z1 := cof_errZ (learn_errZ0 l) x
      have z2 := cof_errZ (learn_errZ0 l) y
      generalize cofF (learnF [] l) x = p at *
      generalize cofF (learnF [] l) y = q at *
      obtain ⟨p1, p2⟩ := p
      obtain ⟨q1, q2⟩ := q
      obtain ⟨xk, xo, xm, xu, xl⟩ := x
      obtain ⟨yk, yo, ym, yu, yl⟩ := y
      dsimp only at z1 z2
      refine Spec.body (C := cx [] 74) fits (fn := Tryz.f47) Tryz.func47 rfl (by decide) (by decide) (gI ?_)
      refine STD (wc c1 (wc c2 (wc c3 wz))) ?_ <;> (repeat' (first | exact Wl.mk | refine wy1 ?_ ?_)) <;> repeat (intro hb; have hx := wy5 hb; clear hx)
      · have hp : ¬ p2 = 0 := by simpa using hb
        exact ⟨by rw [if_neg hp, z1 hp]; rfl, rfl⟩
      · have hq : ¬ q2 = 0 := by simpa using hb
        have hp : p2 = 0 := by
          have h : (!(p2 == 0)) = false := by assumption
          simpa using h
        exact ⟨by rw [if_pos hp, if_neg hq, z2 hq]; rfl, rfl⟩
      · have hq : q2 = 0 := by simpa using hb
        have hp : p2 = 0 := by
          have h : (!(p2 == 0)) = false := by assumption
          simpa using h
        exact ⟨by rw [if_pos hp, if_pos hq]; rfl, rfl⟩
    · have h5 : k = 5 := by
        rw [numF, if_neg (show ¬ (Ex.mk k o nm u kl).kind = 8 from h8)] at hnum
        rcases one_kind hnum with h | h
        · exact absurd h h7
        · exact h
      subst h5
      rw [cof_name _ _ _ _ _ hnum]
      have hlk := look_learn nm l [] rfl
      unfold lk at hlk
      rw [hlk]
      generalize hfb : (lkM nm [] l).getD (0, 7) = fb
      clear hlk hnum IH
      refine Spec.body (C := cx [] 74) fits (fn := Tryz.f47) Tryz.func47 rfl (by decide) (by decide) (gI ?_)
      refine STD (wc c1 wz) ?_ <;> (repeat' (first | exact Wl.mk | refine wy1 ?_ ?_)) <;> repeat (intro hb; have hx := wy5 hb; clear hx)
      refine wLoop [0, 3, 10] 1 (l.length + 1) ?_
      refine (fun key => key l [] _ rfl rfl hfb.symm :
        (∀ (rest done : List Def) (j : Int), l = done ++ rest → j = done.length → fb = (lkM nm (learnF [] done) rest).getD (0, 7) →
        WR2 _ _ _ _ _ (rest.length + 1) [(0, lst Def.row l), (3, .one (.ptr 0 0)), (10, int .i64 j)] [.var ((Ex.mk 5 o nm u kl).row.map .d)]) → _) ?_
      intro rest
      induction rest with
      | nil =>
        intro done j h1 hj hr
        have hlen : l.length = done.length := by rw [h1]; simp
        refine wR (gI ?_)
        refine STD wz ?_ <;> (repeat' (first | exact Wl.mk | refine wy1 ?_ ?_)) <;> repeat (intro hb; have hx := wy5 hb; clear hx)
        exact ⟨by rw [hr]; rfl, rfl⟩
      | cons x rest ih =>
        intro done j h1 hj hr
        have hlen : l.length = done.length + (rest.length + 1) := by rw [h1]; simp
        have gx := at_mid (f := Def.row) h1 hj
        have hc := IHN done (by omega) (by omega) (fun d hd => hn d (by rw [h1]; simp [hd])) _ x.expr (Nat.lt_succ_self _) (hn x (by rw [h1]; simp))
        have g := ih (done ++ [x]) (IntKind.wrap .i64 (j + 1)) (by rw [h1]; simp) (by rw [wrap_ok (by omega) (by omega)]; simp [hj])
        have hd : ((l.map Def.row).take ((some j : Option Int).getD ((l.map Def.row).length : Int)).toNat).drop ((none : Option Int).getD 0).toNat = done.map Def.row := by
          rw [h1, hj]; simp
        have hjl : j ≤ ((l.map Def.row).length : Int) := by rw [List.length_map]; omega
        rw [learn_snoc] at g
        rw [lkM] at hr
        obtain ⟨xn, ⟨xk, xo, xm, xu, xl⟩⟩ := x
        cases hb : xn == nm with
        | true =>
          rw [if_pos hb] at hr
          refine wR (gI ?_)
          repeat' (first | ((first | refine C_r ?_ | refine C0_r ?_ | refine O_r ?_ | refine R_r ?_); (conv => whnf); first | (refine ⟨fun hb => ?_, fun hb => ?_⟩ <;> try exact no_way) | refine A_o ?_ | refine B_o ?_ | refine C_o ?_ | refine R_o ?_ | refine fR ?_ | refine fRk ?_ | refine F_o ?_) | refine C_l (hc) ?_ | refine SA_l ?_ | refine V_l ?_ | refine L_l ?_ | refine Q_l ?_ | refine X_l ?_ | refine Xa_l ?_ | refine Xs_l ?_ | refine K_l ?_ | refine Ka_l ?_ | refine Lk_l ?_ | refine Up_l ?_ | refine Del_l ?_ | refine St_l ?_ | refine LU_l ?_ | refine Xw_l ?_ | refine Le_l ?_ | refine Se_l ?_ | refine M_l ?_ | refine A_l ?_ | refine A0_l ?_ | refine A1_l ?_ | refine Mk_l ?_ | refine Kz_l ?_ | refine W_l ?_ | refine C_d (hc) ?_ | refine K_d (a := none) (b := some j) (rows' := done.map Def.row) ?_ (h1 := by decide) (h2 := by show (0 : Int) ≤ j; omega) (h3 := hjl) (hr := hd) (hok := rowsOk_map_of def_len) | refine SA_d ?_ | refine V_d ?_ | refine L_d ?_ | refine Q_d ?_ | refine X_d ?_ | refine Xs_d ?_ | refine K_d ?_ | refine Ka_d ?_ | refine Lk_d ?_ | refine Up_d ?_ | refine A_d ?_ | refine A0_d ?_ | refine St_d ?_ | refine LU_d ?_ | refine Xw_d ?_ | refine Le_d ?_ | refine Se_d ?_ | refine M_d ?_ | refine Mk_d ?_ | refine N_d ?_ | refine Kz_d ?_ | refine W_d ?_ | fail)
          exact ⟨by rw [hr]; rfl, rfl⟩
        | false =>
          rw [if_neg (by rw [hb]; decide)] at hr
          refine wR (gI ?_)
          refine STD wz ?_ <;> (repeat' (first | exact Wl.mk | refine wy1 ?_ ?_)) <;> repeat (intro hb; have hx := wy5 hb; clear hx)
          exact rE (g hr)
/-- the document's table -/
theorem tableD (l : List Def) (hl : l.length ≤ 1000) (hn : ∀ d ∈ l, d.expr.nok) : Comp Tryz.prog 19 [lst Def.row l] (tabV (tableF [] [] 0 l)) := by
  generalize hfb : tableF [] [] 0 l = fb
  refine Spec.body (C := cx [(5, false)] 54) fits (fn := Tryz.f19) Tryz.func19 rfl (by decide) (by decide) (gI ?_)
  refine STD wz ?_ <;> (repeat' (first | exact Wl.mk | refine wy1 ?_ ?_)) <;> repeat (intro hb; have hx := wy5 hb; clear hx)
  refine wLoop [0, 5, 6] 1 (l.length + 1) ?_
  refine (fun key => key l [] 0 [] rfl rfl hfb.symm (Nat.le_refl _) :
    (∀ (rest done : List Def) (j : Nat) (out : List Int), l = done ++ rest → j = done.length → fb = tableF (learnF [] done) out j rest → out.length ≤ j →
    WR2 _ _ _ _ _ (rest.length + 1) [(0, lst Def.row l), (5, .one (.arr 0 0 (out.map u64row).length)), (6, int .i64 j)] [.arr 0 false 1 (out.map u64row)]) → _) ?_
  intro rest
  induction rest with
  | nil =>
    intro done j out h1 hj hr ho
    have hlen : l.length = done.length := by rw [h1]; simp
    refine wR (gI ?_)
    refine STD wz ?_ <;> (repeat' (first | exact Wl.mk | refine wy1 ?_ ?_)) <;> repeat (intro hb; have hx := wy5 hb; clear hx)
    exact ⟨by rw [hr]; rfl, rfl⟩
  | cons x rest ih =>
    intro done j out h1 hj hr ho
    have hlen : l.length = done.length + (rest.length + 1) := by rw [h1]; simp
    have hc := constD _ done (Nat.lt_succ_self _) (by omega) (fun d hd => hn d (by rw [h1]; simp [hd])) _ x.expr (Nat.lt_succ_self _) (hn x (by rw [h1]; simp))
    have hany := learn_any x.name done
    have hd : ((l.map Def.row).take ((some (j : Int) : Option Int).getD ((l.map Def.row).length : Int)).toNat).drop ((none : Option Int).getD 0).toNat = done.map Def.row := by
      rw [h1, hj]; simp
    have hjl : (j : Int) ≤ ((l.map Def.row).length : Int) := by rw [List.length_map]; omega
    have e1 : ((j + 1 : Nat) : Int) = IntKind.wrap .i64 ((j : Int) + 1) := by rw [wrap_ok (by omega) (by omega)]; rfl
    have g := fun out' => ih (done ++ [x]) (j + 1) out' (by rw [h1]; simp) (by rw [hj]; simp)
    rw [learn_snoc, e1] at g
    have hstep : stepM (learnF [] done) x = (match fk x.name (learnF [] done) 0 with
      | some _ => learnF [] done
      | none => learnF [] done ++ [(x.name, cofF (learnF [] done) x.expr)]) := rfl
    rw [tableF] at hr
    have gx := at_mid (f := Def.row) h1 (show (j : Int) = done.length by omega)
    generalize hm : learnF [] done = m at *
    generalize hq : cofF m x.expr = q at *
    obtain ⟨q1, q2⟩ := q
    obtain ⟨xn, ⟨xk, xo, xm, xu, xl⟩⟩ := x
    refine wR (gI ?_)
    refine STD wz ?_ <;> (repeat' (first | exact Wl.mk | refine wy1 ?_ ?_)) <;> repeat (intro hb; have hx := wy5 hb; clear hx)
    refine wLoop [0, 5, 6, 7] 1 (done.length + 1) ?_
    refine (fun key => key done [] _ rfl rfl rfl :
      (∀ (rest2 done2 : List Def) (j2 : Int), done = done2 ++ rest2 → j2 = done2.length → done.any (fun d => d.name == xn) = rest2.any (fun d => d.name == xn) →
      WR2 _ _ _ _ _ (rest2.length + 1) [(0, lst Def.row l), (5, .one (.arr 0 0 (out.map u64row).length)), (6, int .i64 j), (7, int .i64 j2)] [.arr 0 false 1 (out.map u64row)]) → _) ?_
    intro rest2
    induction rest2 with
    | nil =>
      intro done2 j2 h2 hj2 hr2
      have hlen2 : done.length = done2.length := by rw [h2]; simp
      have hd0 : done.any (fun d => d.name == xn) = false := by rw [hr2]; rfl
      rw [hd0] at hany
      dsimp only at hany hr hstep
      cases hk : fk xn m 0 with
      | some p => rw [hk] at hany; cases hany
      | none =>
        rw [hk] at hr hstep
        dsimp only at hr hstep
        refine wR (gI ?_)
        repeat' (first | ((first | refine C_r ?_ | refine C0_r ?_ | refine O_r ?_ | refine R_r ?_); (conv => whnf); first | (refine ⟨fun hb => ?_, fun hb => ?_⟩ <;> try exact no_way) | refine A_o ?_ | refine B_o ?_ | refine C_o ?_ | refine R_o ?_ | refine fR ?_ | refine fRk ?_ | refine F_o ?_) | refine C_l (hc) ?_ | refine SA_l ?_ | refine V_l ?_ | refine L_l ?_ | refine Q_l ?_ | refine X_l ?_ | refine Xa_l ?_ | refine Xs_l ?_ | refine K_l ?_ | refine Ka_l ?_ | refine Lk_l ?_ | refine Up_l ?_ | refine Del_l ?_ | refine St_l ?_ | refine LU_l ?_ | refine Xw_l ?_ | refine Le_l ?_ | refine Se_l ?_ | refine M_l ?_ | refine A_l ?_ | refine A0_l ?_ | refine A1_l ?_ | refine Mk_l ?_ | refine Kz_l ?_ | refine W_l ?_ | refine C_d (hc) ?_ | refine K_d (a := none) (b := some (j : Int)) (rows' := done.map Def.row) ?_ (h1 := by decide) (h2 := by show (0 : Int) ≤ (j : Int); omega) (h3 := hjl) (hr := hd) (hok := rowsOk_map_of def_len) | refine SA_d ?_ | refine V_d ?_ | refine L_d ?_ | refine Q_d ?_ | refine X_d ?_ | refine Xs_d ?_ | refine K_d ?_ | refine Ka_d ?_ | refine Lk_d ?_ | refine Up_d ?_ | refine A_d ?_ | refine A0_d ?_ | refine St_d ?_ | refine LU_d ?_ | refine Xw_d ?_ | refine Le_d ?_ | refine Se_d ?_ | refine M_d ?_ | refine Mk_d ?_ | refine N_d ?_ | refine Kz_d ?_ | refine W_d ?_ | fail)
        · have hz : ¬ q2 = 0 := by simpa using hb
          rw [if_neg hz] at hr
          exact ⟨by rw [hr]; rfl, rfl⟩
        · have hz : q2 = 0 := by simpa using hb
          rw [if_pos hz, ← hstep] at hr
          have g := g _ hr (by simp; omega)
          rw [List.map_append] at g
          exact rE g
    | cons y rest2 ih2 =>
      intro done2 j2 h2 hj2 hr2
      have hlen2 : done.length = done2.length + (rest2.length + 1) := by rw [h2]; simp
      have g2 : l[j2.toNat]? = some y := by rw [h1, h2, hj2]; simp
      have g4 := at_of (f := Def.row) g2
      obtain ⟨yn, ⟨yk, yo, ym, yu, yl⟩⟩ := y
      refine wR (gI ?_)
      refine STD wz ?_ <;> (repeat' (first | exact Wl.mk | refine wy1 ?_ ?_)) <;> repeat (intro hb; have hx := wy5 hb; clear hx)
      · have e2 : (yn == xn) = true := hb
        have hd1 : done.any (fun d => d.name == xn) = true := by rw [hr2, List.any_cons]; simp only [e2, Bool.true_or]
        rw [hd1] at hany
        dsimp only at hany hr
        cases hk : fk xn m 0 with
        | none => rw [hk] at hany; cases hany
        | some p =>
          rw [hk] at hr
          exact ⟨by rw [hr]; rfl, rfl⟩
      · have e2 : (yn == xn) = false := hb
        refine rE (ih2 (done2 ++ [⟨yn, Ex.mk yk yo ym yu yl⟩]) _ (by rw [h2]; simp) ?_ ?_)
        · rw [wrap_ok (by omega) (by omega)]; simp [hj2]
        · rw [hr2, List.any_cons]; simp only [e2, Bool.false_or]
end Go.Proofs.YtjjhckmnnaafkaaGreatDoor
namespace Go.Proofs.YtjjhckmnnaafkaaGreatDoor
open Go Go.Am Go.Proofs
attribute [local irreducible] W WL DL WO RoundEnd
set_option maxRecDepth 10000
set_option maxHeartbeats 4000000
theorem opF_range (s : ByteArray) : 0 ≤ opF s ∧ opF s ≤ 6 := by
  unfold opF
  repeat' split
  all_goals decide
theorem op_ix (s : ByteArray) : 1 + ixF s cmpOps 0 = opF s := by
  by_cases h1 : s = ⟨#[61, 61]⟩
  · subst h1; rfl
  by_cases h2 : s = ⟨#[33, 61]⟩
  · subst h2; rfl
  by_cases h3 : s = ⟨#[60]⟩
  · subst h3; rfl
  by_cases h4 : s = ⟨#[60, 61]⟩
  · subst h4; rfl
  by_cases h5 : s = ⟨#[62]⟩
  · subst h5; rfl
  by_cases h6 : s = ⟨#[62, 61]⟩
  · subst h6; rfl
  simp [cmpOps, ixF, opF, ba_beq, h1, h2, h3, h4, h5, h6]
theorem opR (s : ByteArray) : Comp Tryz.prog 103 [str s] (int .i64 (opF s)) := by
  have c1 := indexR cmpOps s (by decide)
  have e := op_ix s
  have r := opF_range s
  generalize ixF s cmpOps 0 = j at c1 e
  refine Spec.body (C := cx [] 7) fits (fn := Tryz.f103) Tryz.func103 rfl (by decide) (by decide) (gI ?_)
  refine ST (wc c1 wz) ?_ <;> (repeat' (first | exact Wl.mk | refine wy1 ?_ ?_)) <;> repeat (intro hb; have hx := wy5 hb; clear hx)
  exact ⟨by rw [wrap_ok (by omega) (by omega), e]; rfl, rfl⟩
theorem bz1 {x : Int} (h : (!(x == 0)) = true) : ¬ x = 0 := by simpa using h
theorem bz0 {x : Int} (h : (!(x == 0)) = false) : x = 0 := by simpa using h
theorem bl1 {x : Int} (h : decide (x < 0) = true) : x < 0 := of_decide_eq_true h
theorem bl0 {x : Int} (h : decide (x < 0) = false) : ¬ x < 0 := of_decide_eq_false h
def bndO (ds : List Def) (ps : List ByteArray) : St := [.var [.d (.list (ds.map Def.row)), .d (.list (ps.map strow))]]
def cdV (q : Cd × Int) : V := .tup [.agg (q.1.row.map .d), .one (.d (.sc (.int .i64 q.2)))]
theorem atomR (ds : List Def) (ps : List ByteArray) (e : Ex) (he : cmpOk e) (hk : e.nok) (hds : ds.length < 2 ^ 40) (hdn : ∀ d ∈ ds, d.expr.nok) (hps : ps.length < 2 ^ 60) :
    Am.Spec Tryz.prog 75 [.one (.ptr 0 0), .agg (e.row.map .d)] (bndO ds ps) (fun v s => v = cdV (atomF ds ps e) ∧ s = bndO ds ps) := by
  obtain ⟨o, n, u, k, v, rfl, hk6⟩ := he
  have hA : atomF ds ps (.mk 4 o n u [k, v]) = (if ixF k.name ps 0 < 0 then (cd0, 7)
    else if (maskF ds k).2 = 0 then
      (if (valOf ds v).2 = 0 then (.mk 5 ⟨ixF k.name ps 0, opF o, (maskF ds k).1, (valOf ds v).1⟩ [], 0) else (cd0, (valOf ds v).2))
    else (cd0, (maskF ds k).2)) := rfl
  rw [hA]
  have c1 := indexR ps k.name hps
  have c2 := opR o
  have c3 := constR ds v hds hdn hk.2.2.1
  change Comp Tryz.prog _ _ (cvV (valOf ds v)) at c3
  clear hA
  unfold bndO
  by_cases h6 : k.kind = 6
  · obtain ⟨o', n', u', x, rfl⟩ := hk6 h6
    have c4 := constR ds x hds hdn hk.2.1.2.1
    change Comp Tryz.prog _ _ (cvV (valOf ds x)) at c4
    have hm : maskF ds (.mk 6 o' n' u' [x]) = valOf ds x := by unfold maskF; rw [if_pos h6]; rfl
    rw [hm]
    generalize valOf ds x = q at *
    generalize valOf ds v = p at *
    change Comp Tryz.prog _ [lst strow ps, str n'] (int .i64 (ixF n' ps 0)) at c1
    simp only [show (Ex.mk 6 o' n' u' [x]).name = n' from rfl]
    generalize ixF n' ps 0 = a at *
    obtain ⟨p1, p2⟩ := p
    obtain ⟨q1, q2⟩ := q
    obtain ⟨xk, xo, xm, xu, xl⟩ := x
    obtain ⟨vk, vo, vm, vu, vl⟩ := v
    unfold cvV at c3 c4
    refine Spec.body (C := cx [] 72) fits (fn := Tryz.f75) Tryz.func75 rfl (by decide) (by decide) (gI ?_)
    refine STD (wc c1 (wc c2 (wc c3 (wc c4 wz)))) ?_ <;> (repeat' (first | exact Wl.mk | refine wy1 ?_ ?_)) <;> repeat (intro hb; have hx := wy5 hb; clear hx)
    all_goals first
      | (have h1 : decide (a < 0) = true := (by assumption); exact ⟨by rw [if_pos (bl1 h1)]; rfl, rfl⟩)
      | (have h1 : decide (a < 0) = false := (by assumption); have h2 : (!(q2 == 0)) = true := (by assumption); exact ⟨by rw [if_neg (bl0 h1), if_neg (bz1 h2)]; rfl, rfl⟩)
      | (have h1 : decide (a < 0) = false := (by assumption); have h2 : (!(q2 == 0)) = false := (by assumption); have h3 : (!(p2 == 0)) = true := (by assumption); exact ⟨by rw [if_neg (bl0 h1), if_pos (bz0 h2), if_neg (bz1 h3)]; rfl, rfl⟩)
      | (have h1 : decide (a < 0) = false := (by assumption); have h2 : (!(q2 == 0)) = false := (by assumption); have h3 : (!(p2 == 0)) = false := (by assumption); exact ⟨by rw [if_neg (bl0 h1), if_pos (bz0 h2), if_pos (bz0 h3)]; rfl, rfl⟩)
  · have hm : maskF ds k = (allBits, 0) := by unfold maskF; rw [if_neg h6]
    rw [hm]
    generalize valOf ds v = p at *
    obtain ⟨kk, ko, kn, ku, kl⟩ := k
    have h6 : ¬ kk = 6 := h6
    have b6 : (kk == 6) = false := by simpa using h6
    change Comp Tryz.prog _ [lst strow ps, str kn] (int .i64 (ixF kn ps 0)) at c1
    simp only [show (Ex.mk kk ko kn ku kl).name = kn from rfl]
    generalize ixF kn ps 0 = a at *
    obtain ⟨p1, p2⟩ := p
    obtain ⟨vk, vo, vm, vu, vl⟩ := v
    unfold cvV at c3
    refine Spec.body (C := cx [] 72) fits (fn := Tryz.f75) Tryz.func75 rfl (by decide) (by decide) (gI ?_)
    refine STD (wc c1 (wc c2 (wc c3 wz))) ?_ <;> (repeat' (first | exact Wl.mk | refine wy1 ?_ ?_)) <;> repeat (intro hb; have hx := wy5 hb; clear hx)
    all_goals first
      | (have h1 : decide (a < 0) = true := (by assumption); exact ⟨by rw [if_pos (bl1 h1)]; rfl, rfl⟩)
      | (have h1 : decide (a < 0) = false := (by assumption); have h3 : (!(p2 == 0)) = true := (by assumption); exact ⟨by rw [if_neg (bl0 h1), if_pos trivial, if_neg (bz1 h3)]; rfl, rfl⟩)
      | (have h1 : decide (a < 0) = false := (by assumption); have h3 : (!(p2 == 0)) = false := (by assumption); exact ⟨by rw [if_neg (bl0 h1), if_pos trivial, if_pos (bz0 h3)]; rfl, rfl⟩)
end Go.Proofs.YtjjhckmnnaafkaaGreatDoor
namespace Go.Proofs.YtjjhckmnnaafkaaGreatDoor
open Go Go.Am Go.Proofs
attribute [local irreducible] W WL DL WO RoundEnd
set_option maxRecDepth 10000
set_option maxHeartbeats 4000000
theorem cndF_4 (ds : List Def) (ps : List ByteArray) (o n : ByteArray) (u : Int) (l : List Ex) : cndF ds ps (.mk 4 o n u l) = atomF ds ps (.mk 4 o n u l) := by
  rw [cndF, if_pos rfl]
theorem cndF_n (ds : List Def) (ps : List ByteArray) (k : Int) (o n : ByteArray) (u : Int) (l : List Ex) (h : k ≠ 4) : cndF ds ps (.mk k o n u l) = if (cndsF ds ps l []).2 = 0 then (.mk (ckF k) atm0 (cndsF ds ps l []).1, 0) else (cd0, (cndsF ds ps l []).2) := by
  rw [cndF, if_neg h]
theorem noks_mem : ∀ {l : List Ex} {x : Ex}, Ex.noks l → x ∈ l → x.nok
  | [], _, _, h => by simp at h
  | y :: l, x, h, hm => by
    rcases List.mem_cons.1 hm with rfl | hm
    · exact h.1
    · exact noks_mem h.2 hm
theorem ck1 : ckF 1 = 4 := by decide
theorem ck2 : ckF 2 = 3 := by decide
theorem ck3 : ckF 3 = 2 := by decide
theorem cndR (ds : List Def) (ps : List ByteArray) (hds : ds.length < 2 ^ 40) (hdn : ∀ d ∈ ds, d.expr.nok) (hps : ps.length < 2 ^ 60) : ∀ (n : Nat) (e : Ex), e.size < n → e.nok → e.ok → condOk e →
    Am.Spec Tryz.prog 41 [.one (.ptr 0 0), .agg (e.row.map .d)] (bndO ds ps) (fun v s => v = cdV (cndF ds ps e) ∧ s = bndO ds ps) := by
  intro n
  induction n with
  | zero => intro e h; omega
  | succ n IH =>
  intro e hs hk hok hc
  obtain ⟨k, o, nm, u, l⟩ := e
  by_cases h4 : k = 4
  · subst h4
    rw [cndF_4]
    have c1 := atomR ds ps _ (hc.1 rfl) hk hds hdn hps
    generalize atomF ds ps (.mk 4 o nm u l) = q at *
    obtain ⟨⟨ck, ⟨c2, c3, c4, c5⟩, cl⟩, q2⟩ := q
    unfold bndO at *
    refine Spec.body (C := cx [] 53) fits (fn := Tryz.f41) Tryz.func41 rfl (by decide) (by decide) (gI ?_)
    repeat' (first | ((first | refine C_r ?_ | refine C0_r ?_ | refine O_r ?_ | refine R_r ?_); (conv => whnf); first | (refine ⟨fun hb => ?_, fun hb => ?_⟩ <;> try exact no_way) | refine A_o ?_ | refine B_o ?_ | refine C_o ?_ | refine R_o ?_ | refine fR ?_ | refine fRk ?_ | refine F_o ?_) | refine fun k => WL.crpU [0] [.var [.d (.list (ds.map Def.row)), .d (.list (ps.map strow))]] _ _ c1 (oW ?_ _) | refine SA_l ?_ | refine V_l ?_ | refine L_l ?_ | refine Q_l ?_ | refine X_l ?_ | refine Xa_l ?_ | refine Xs_l ?_ | refine K_l ?_ | refine Ka_l ?_ | refine Lk_l ?_ | refine Up_l ?_ | refine Del_l ?_ | refine St_l ?_ | refine LU_l ?_ | refine Xw_l ?_ | refine Le_l ?_ | refine Se_l ?_ | refine M_l ?_ | refine A_l ?_ | refine A0_l ?_ | refine A1_l ?_ | refine Mk_l ?_ | refine Kz_l ?_ | refine W_l ?_ | fail)
    exact ⟨rfl, rfl⟩
  · have b4 : (k == 4) = false := by simpa using h4
    have hc2 : (k = 1 ∨ k = 2 ∨ k = 3) ∧ condsOk l := by
      rcases hc.2 with h | h
      · exact absurd h h4
      · exact h
    obtain ⟨hk3, hcl⟩ := hc2
    rw [cndF_n _ _ _ _ _ _ _ h4]
    generalize hfb : cndsF ds ps l [] = fb
    have hll : l.length ≤ 2000000000000 := by have := hok.1; omega
    have hkl := hk.2
    have hokl := hok.2
    unfold bndO at *
    have el : Ex.rows l = l.map Ex.row := Ex.rows_eq l
    simp only [Ex.row, el, List.map_cons, List.map_nil]
    obtain ⟨w, hw⟩ : ∃ w, ckF k = w := ⟨_, rfl⟩
    rw [hw]
    clear hc hok hk
    refine Spec.body (C := cx [] 53) fits (fn := Tryz.f41) Tryz.func41 rfl (by decide) (by decide) (gI ?_)
    rcases hk3 with rfl | rfl | rfl
    all_goals
      simp only [ck1, ck2, ck3] at hw
      subst hw
      refine ST wz ?_ <;> (repeat' (first | exact Wl.mk | refine wy1 ?_ ?_)) <;> repeat (intro hb; have hx := wy5 hb; clear hx)
      refine gA 3 5 false 6 ?_
      refine wLoop [0, 4, 6, 29, 30, 31] 5 (l.length + 1) ?_
      refine (fun key => key l [] _ [] rfl rfl hfb.symm (Nat.le_refl _) :
        (∀ (rest done : List Ex) (j : Int) (out : List Cd), l = done ++ rest → j = done.length → fb = cndsF ds ps rest out → out.length ≤ done.length →
        WR2 _ _ _ _ _ (rest.length + 1) [(0, .one (.ptr 0 0)), (4, .one (.ptr 2 0)), (6, .one (.ptr 3 0)), (29, lst Ex.row l), (30, int .i64 (l.map Ex.row).length), (31, int .i64 j)]
          [.var [.d (.list (ds.map Def.row)), .d (.list (ps.map strow))], .var [.d (.sc (.int .i64 _)), .d (.sc (.string o)), .d (.sc (.string nm)), .d (.sc (.int .u64 u)), .d (.list (l.map Ex.row))],
           .var [.d (.sc (.int .i64 0)), .d (.sc (.int .i64 0)), .d (.sc (.int .i64 0)), .d (.sc (.int .u64 0)), .d (.sc (.int .u64 0)), .d (.sc (.slice none 0 0))],
           .var [.d (.sc (.int .i64 _)), .d (.sc (.int .i64 0)), .d (.sc (.int .i64 0)), .d (.sc (.int .u64 0)), .d (.sc (.int .u64 0)), .arr 4 0 (out.map Cd.row).length], .arr 0 false 6 (out.map Cd.row)]) → _) ?_
      intro rest
      induction rest with
      | nil =>
        intro done j out h1 hj hr ho
        have hlen : l.length = done.length := by rw [h1]; simp
        refine wR (gI ?_)
        refine ST wz ?_ <;> (repeat' (first | exact Wl.mk | refine wy1 ?_ ?_)) <;> repeat (intro hb; have hx := wy5 hb; clear hx)
        rw [cndsF] at hr
        exact ⟨by rw [hr, if_pos rfl]; simp only [cdV, Cd.row, Cd.rows_eq]; rfl, rfl⟩
      | cons x rest ih =>
        intro done j out h1 hj hr ho
        have hlen : l.length = done.length + (rest.length + 1) := by rw [h1]; simp
        have hxm : x ∈ l := by rw [h1]; simp
        have gx := at_mid (f := Ex.row) h1 hj
        have hcx := IH x (by have := Ex.size_mem hxm; rw [Ex.size] at hs; omega) (noks_mem hkl hxm) (Ex.oks_mem hokl hxm) (condsOk_mem hcl hxm)
        have g := fun out' => ih (done ++ [x]) (IntKind.wrap .i64 (j + 1)) out' (by rw [h1]; simp) (by rw [wrap_ok (by omega) (by omega)]; simp [hj])
        rw [cndsF] at hr
        generalize cndF ds ps x = q at hcx hr
        obtain ⟨⟨ck, ⟨c2, c3, c4, c5⟩, cl⟩, q2⟩ := q
        obtain ⟨xk, xo, xm, xu, xl⟩ := x
        refine wR (gI ?_)
        repeat' (first | ((first | refine C_r ?_ | refine C0_r ?_ | refine O_r ?_ | refine R_r ?_); (conv => whnf); first | (refine ⟨fun hb => ?_, fun hb => ?_⟩ <;> try exact no_way) | refine A_o ?_ | refine B_o ?_ | refine C_o ?_ | refine R_o ?_ | refine fR ?_ | refine fRk ?_ | refine F_o ?_) | refine fun k => WL.crpU [0] [.var [.d (.list (ds.map Def.row)), .d (.list (ps.map strow))]] _ _ hcx (oW ?_ _) | refine SA_l ?_ | refine V_l ?_ | refine L_l ?_ | refine Q_l ?_ | refine X_l ?_ | refine Xa_l ?_ | refine Xs_l ?_ | refine K_l ?_ | refine Ka_l ?_ | refine Lk_l ?_ | refine Up_l ?_ | refine Del_l ?_ | refine St_l ?_ | refine LU_l ?_ | refine Xw_l ?_ | refine Le_l ?_ | refine Se_l ?_ | refine M_l ?_ | refine A_l ?_ | refine A0_l ?_ | refine A1_l ?_ | refine Mk_l ?_ | refine Kz_l ?_ | refine W_l ?_ | fail)
        · have hz := bz1 hb
          rw [if_neg hz] at hr
          exact ⟨by rw [hr, if_neg hz]; rfl, rfl⟩
        · have hz := bz0 hb
          rw [if_pos hz] at hr
          have g := g _ hr (by simp; omega)
          rw [List.map_append] at g
          exact rE g
end Go.Proofs.YtjjhckmnnaafkaaGreatDoor
