/- The abstract machine: walking, in short: the rules with their small premises worked out by themselves; loops, round by round. -/
import Derived.Test.YtfbocpbeogkapaaAmCall3
import Derived.Test.YtfbocpbeogkapaaAmLaw
set_option linter.unusedVariables false
set_option linter.unusedSimpArgs false
namespace Go.Am
/-! reading a list that is written as data of a kind -/
theorem aop_make {C : Cx} {e : Env} {σ : St} {o : Oper} {nid : Nat} {t et : TypeId} {l c : Operand} {n w : Nat} {z : Value} {m : Bool} {k k' : IntKind} {len : Int} (ho : o.op = .makeSlice t l c) (hl : ev (opEnv e o) l = some (.one (.d (.sc (.int k len)))))
    (hc : ev (opEnv e o) c = some (.one (.d (.sc (.int k' len))))) (ht : C.T.elem t = some et) (hs : C.T.size et = some n) (hb : C.T.bytes et = some w) (hz : C.T.zero et = some z) (h0 : 0 ≤ len) (h1 : len * w ≤ most) (h2 : len < 2 ^ 62)
    (hzc : (Nat.beq z.cells.size n && allPlain z.cells.toList) = true) (hm : arMode C.ar o.dst = some m) :
    aop C nid e σ o = some (.one (.arr nid 0 len.toNat), [(nid, .arr 0 m n (List.replicate len.toNat (z.cells.toList.map .sc)))]) := by
  unfold aop core
  rw [ho]
  simp only [hl, hc, makeSliceOf, ht, hs, hb, hz, hzc, hm, decide_eq_true h0, decide_eq_true h1, decide_eq_true h2, arrOrList, List.length_replicate, decide_true, Bool.and_self, cond_true]
theorem bytesOf_map : ∀ bs : List UInt8, bytesOf (bs.map fun b => [.sc (.int .u8 (b.toNat : Int))]) = some bs
  | [] => rfl
  | b :: bs => by simp [bytesOf, bytesOf_map bs]
theorem scalOp_sadd {P : Program} {ρ : Operand → Option V} {dst : Option Nat} {t t' ty : TypeId} {x y : Operand} {a b : ByteArray} {pos : String} {after : Array Edge} {guard : Option (Nat × Bool)}
    (hx : ρ x = some (.one (.d (.sc (.string a))))) (hy : ρ y = some (.one (.d (.sc (.string b))))) (hs : a.size + b.size < 2 ^ 63) :
    scalOp P ρ ⟨dst, .binOp .add t x y t', ty, pos, after, guard⟩ = some (.one (.d (.sc (.string (a ++ b))))) := by
  have hle : ¬ (((a.size + b.size : Nat) : Int) > IntKind.i64.max) := by
    have : IntKind.i64.max = 9223372036854775807 := rfl
    rw [this]; omega
  have hb : binOp .add t (.string a) (.string b) = pure (.string (a ++ b)) := by
    simp only [binOp, Op.stringOp]
    rw [if_neg hle]
  have hrun : ∀ η : Operand → Value, η x = .string a → η y = .string b → pureRun P (execOp η ⟨dst, .binOp .add t x y t', ty, pos, after, guard⟩) = some (.value (.string (a ++ b))) := by
    intro η h1 h2
    simp only [execOp, h1, h2]
    rw [hb]; rfl
  unfold scalOp
  split
  · rw [hrun _ (by simp only [hx, V.scal]) (by simp only [hy, V.scal])]; rfl
  · rename_i h
    simp [isSelect, Op.operands, hx, hy, V.scal] at h
/-- two strings, one behind the other -/
theorem aop_sadd {C : Cx} {e : Env} {σ : St} {o : Oper} {nid : Nat} {t t' : TypeId} {x y : Operand} {a b : ByteArray} (ho : o.op = .binOp .add t x y t') (hx : ev (opEnv e o) x = some (.one (.d (.sc (.string a))))) (hy : ev (opEnv e o) y = some (.one (.d (.sc (.string b)))))
    (hs : a.size + b.size < 2 ^ 63) : aop C nid e σ o = some (.one (.d (.sc (.string (a ++ b)))), []) := by
  obtain ⟨dst, op, ty, pos, after, guard⟩ := o
  simp only at ho
  subst ho
  unfold aop core
  simp only [hx, hy, scalOp_sadd hx hy hs, noU]
theorem ba_beq (a b : ByteArray) : (a == b) = decide (a = b) := by
  rw [beq_toListBytes, ByteArray.toList_eq, ByteArray.toList_eq]
  by_cases h : a = b
  · subst h; simp
  · rw [decide_eq_false h, Bool.eq_false_iff]
    intro hb
    apply h
    obtain ⟨⟨x⟩⟩ := a
    obtain ⟨⟨y⟩⟩ := b
    have : x = y := by simpa using hb
    subst this; rfl
theorem at_mid {α : Type} {f : α → List D} {l done rest : List α} {x : α} {j : Int} (hl : l = done ++ x :: rest) (hj : j = done.length) : (l.map f)[j.toNat]? = some (f x) := by subst hl hj; simp
theorem at_of {α : Type} {f : α → List D} {l : List α} {x : α} {i : Nat} (h : l[i]? = some x) : (l.map f)[i]? = some (f x) := by simp [h]
theorem rowsOk_map_of {α : Type} {f : α → List D} {n : Nat} {l : List α} (h : ∀ x, (f x).length = n) : rowsOk n (l.map f) = true := by
  simp only [rowsOk, List.all_eq_true, List.mem_map]
  rintro _ ⟨x, _, rfl⟩
  rw [h x]; exact Nat.beq_refl n
/-! handing on, without asking first: that the lengths fit is owed beside -/
def snU (look : Look) : Cell → Option Cell
  | .d (.sc (.slice none 0 0)) => some (.d (.list []))
  | .arr id _ _ => match look id with
    | some (.arr _ false _ rows) => some (.d (.list rows))
    | _ => none
  | c => some c
def okU (look : Look) : Cell → Prop
  | .arr id ep len => match look id with
    | some (.arr ep' _ _ rows) => ep = ep' ∧ len = rows.length
    | _ => False
  | _ => True
theorem snU_eq {look : Look} {c c' : Cell} (h : snU look c = some c') (ho : okU look c) : snap look c = some c' := by
  unfold snU at h
  split at h
  · injection h with h; subst h; rfl
  · rename_i id ep len
    split at h
    · rename_i ep' sz rows hl
      injection h with h; subst h
      simp only [okU, hl] at ho
      obtain ⟨rfl, rfl⟩ := ho
      simp [snap, rowsOf, hl]
    · simp at h
  · rename_i h1 h2
    injection h with h; subst h
    unfold snap
    split
    · exact absurd rfl h1
    · rename_i id ep len; exact absurd rfl (h2 id ep len)
    · rfl
def snUs (look : Look) : List Cell → Option (List Cell)
  | [] => some []
  | c :: r => match snU look c, snUs look r with
    | some x, some xs => some (x :: xs)
    | _, _ => none
def okUs (look : Look) : List Cell → Prop
  | [] => True
  | c :: r => okU look c ∧ okUs look r
theorem snUs_eq {look : Look} : ∀ {cs cs' : List Cell}, snUs look cs = some cs' → okUs look cs → snapAll look cs = some cs'
  | [], cs', h, _ => h
  | c :: r, cs', h, ho => by
    simp only [snUs] at h
    cases h1 : snU look c with
    | none => simp [h1] at h
    | some x =>
    cases h2 : snUs look r with
    | none => simp [h1, h2] at h
    | some xs =>
    simp only [h1, h2, Option.some.injEq] at h; subst h
    simp only [snapAll, snU_eq h1 ho.1, snUs_eq h2 ho.2]
def snUF (look : Look) : FV → Option FV
  | .one c => match snU look c with
    | some c => some (.one c)
    | none => none
  | .agg cs => match snUs look cs with
    | some cs => some (.agg cs)
    | none => none
def okUF (look : Look) : FV → Prop
  | .one c => okU look c
  | .agg cs => okUs look cs
theorem snUF_eq {look : Look} {x x' : FV} (h : snUF look x = some x') (ho : okUF look x) : snapF look x = some x' := by
  cases x with
  | one c =>
    simp only [snUF] at h
    cases h1 : snU look c with
    | none => simp [h1] at h
    | some y => simp only [h1, Option.some.injEq] at h; subst h; simp only [snapF, snU_eq h1 ho, Option.map_some]
  | agg cs =>
    simp only [snUF] at h
    cases h1 : snUs look cs with
    | none => simp [h1] at h
    | some y => simp only [h1, Option.some.injEq] at h; subst h; simp only [snapF, snUs_eq h1 ho, Option.map_some]
def snUFs (look : Look) : List FV → Option (List FV)
  | [] => some []
  | c :: r => match snUF look c, snUFs look r with
    | some x, some xs => some (x :: xs)
    | _, _ => none
def okUFs (look : Look) : List FV → Prop
  | [] => True
  | c :: r => okUF look c ∧ okUFs look r
theorem snUFs_eq {look : Look} : ∀ {cs cs' : List FV}, snUFs look cs = some cs' → okUFs look cs → snapFs look cs = some cs'
  | [], cs', h, _ => h
  | c :: r, cs', h, ho => by
    simp only [snUFs] at h
    cases h1 : snUF look c with
    | none => simp [h1] at h
    | some x =>
    cases h2 : snUFs look r with
    | none => simp [h1, h2] at h
    | some xs =>
    simp only [h1, h2, Option.some.injEq] at h; subst h
    simp only [snapFs, snUF_eq h1 ho.1, snUFs_eq h2 ho.2]
def snUV (look : Look) : V → Option V
  | .one c => match snU look c with
    | some c => some (.one c)
    | none => none
  | .agg cs => match snUs look cs with
    | some cs => some (.agg cs)
    | none => none
  | .tup xs => match snUFs look xs with
    | some xs => some (.tup xs)
    | none => none
  | .undef => none
def okUV (look : Look) : V → Prop
  | .one c => okU look c
  | .agg cs => okUs look cs
  | .tup xs => okUFs look xs
  | .undef => True
theorem snUV_eq {look : Look} {x x' : V} (h : snUV look x = some x') (ho : okUV look x) : snapV look x = some x' := by
  cases x with
  | one c =>
    simp only [snUV] at h
    cases h1 : snU look c with
    | none => simp [h1] at h
    | some y => simp only [h1, Option.some.injEq] at h; subst h; simp only [snapV, snU_eq h1 ho, Option.map_some]
  | agg cs =>
    simp only [snUV] at h
    cases h1 : snUs look cs with
    | none => simp [h1] at h
    | some y => simp only [h1, Option.some.injEq] at h; subst h; simp only [snapV, snUs_eq h1 ho, Option.map_some]
  | tup xs =>
    simp only [snUV] at h
    cases h1 : snUFs look xs with
    | none => simp [h1] at h
    | some y => simp only [h1, Option.some.injEq] at h; subst h; simp only [snapV, snUFs_eq h1 ho, Option.map_some]
  | undef => simp [snUV] at h
def snUVs (look : Look) : List V → Option (List V)
  | [] => some []
  | c :: r => match snUV look c, snUVs look r with
    | some x, some xs => some (x :: xs)
    | _, _ => none
def okUVs (look : Look) : List V → Prop
  | [] => True
  | c :: r => okUV look c ∧ okUVs look r
theorem snUVs_eq {look : Look} : ∀ {cs cs' : List V}, snUVs look cs = some cs' → okUVs look cs → snapVs look cs = some cs'
  | [], cs', h, _ => h
  | c :: r, cs', h, ho => by
    simp only [snUVs] at h
    cases h1 : snUV look c with
    | none => simp [h1] at h
    | some x =>
    cases h2 : snUVs look r with
    | none => simp [h1, h2] at h
    | some xs =>
    simp only [h1, h2, Option.some.injEq] at h; subst h
    simp only [snapVs, snUV_eq h1 ho.1, snUVs_eq h2 ho.2]

section
variable {C : Cx} {all l : List Oper} {k : Nat} {e : Env} {σ : St} {o : Oper} {acc : List Rec} {Q : Env → St → Prop}

/-- has an operation a Boolean value that may be open? -/
def isBoolish (T : Tab) (o : Oper) : Bool :=
  isCmp o || match o.op with
    | .load _ _ | .extract _ _ | .index _ _ _ | .field _ _ _ | .unOp _ _ _ | .lookup _ _ _ _ => match T.und o.type with
      | some .bool => true
      | _ => false
    | _ => false

theorem snapVs_nil {look : Look} : snapVs look [] = some [] := rfl
theorem lE (h : Q e σ) : WL C all [] k e σ Q := WL.fin h
theorem lS {e' : Env} (h : WL C all l (k + 1) e' σ Q) (hg : guardOk e all o = some false := by rfl) (hd : dstOk C.n o = true := by rfl) (he : nput e o.dst .undef = some e' := by rfl) : WL C all (o :: l) k e σ Q := WL.skip' hg hd he h
theorem lQ (hT : C.T.fits C.P) {v v' : V} {e' : Env} (h : WL C all l (k + 1) e' σ Q) (hg : guardOk e all o = some true := by rfl) (hd : dstOk C.n o = true := by rfl) (hm : makes C o = false := by rfl)
    (hop : aop C 0 e σ o = some (v, []) := by rfl) (hv : fV v = some v' := by rfl) (he : nput e o.dst v' = some e' := by rfl) : WL C all (o :: l) k e σ Q := WL.q' hT hg hd hm hop hv he h
/-- a quiet operation whose value is known by a law of its own -/
theorem lQ' (hT : C.T.fits C.P) {v v' : V} {e' : Env} (hop : aop C 0 e σ o = some (v, [])) (h : WL C all l (k + 1) e' σ Q) (hg : guardOk e all o = some true := by rfl) (hd : dstOk C.n o = true := by rfl) (hm : makes C o = false := by rfl)
    (hv : fV v = some v' := by rfl) (he : nput e o.dst v' = some e' := by rfl) : WL C all (o :: l) k e σ Q := WL.q' hT hg hd hm hop hv he h
theorem lL (hT : C.T.fits C.P) {rows rows' : List (List D)} {e' : Env} (h : WL C all l (k + 1) e' σ Q) (hb : isBuildSlice o = true := by rfl) (hg : guardOk e all o = some true := by rfl) (hd : dstOk C.n o = true := by rfl) (hm : makes C o = false := by rfl)
    (hop : aop C 0 e σ o = some (.one (.d (.list rows)), []) := by rfl) (hr : fLL rows = some rows' := by rfl) (he : nput e o.dst (.one (.d (.list rows'))) = some e' := by rfl) : WL C all (o :: l) k e σ Q := WL.s' hb hT hg hd hm hop hr he h
theorem lM (hT : C.T.fits C.P) {v v' : V} {u : Upd} {nid : Nat} {σ' : St} {e' : Env} (h : WL C all l (k + 1) e' σ' Q) (hm : makes C o = true := by rfl) (hg : guardOk e all o = some true := by rfl) (hd : dstOk C.n o = true := by rfl)
    (hn : fNat σ.length = some nid := by rfl) (hop : aop C nid e (σ ++ [.dead]) o = some (v, u) := by rfl) (hv : fV v = some v' := by rfl) (hσ : fS (St.upd (σ ++ [.dead]) u) = some σ' := by rfl) (he : nput e o.dst v' = some e' := by rfl) : WL C all (o :: l) k e σ Q := by
  rw [fNat_eq] at hn; injection hn with hn; subst hn
  exact WL.m' hm hT hg hd hop hv hσ he h
theorem lM' (hT : C.T.fits C.P) {v v' : V} {u : Upd} {nid : Nat} {σ' : St} {e' : Env} (hn : fNat σ.length = some nid) (hop : aop C nid e (σ ++ [.dead]) o = some (v, u)) (h : WL C all l (k + 1) e' σ' Q) (hm : makes C o = true := by rfl) (hg : guardOk e all o = some true := by rfl) (hd : dstOk C.n o = true := by rfl)
    (hv : fV v = some v' := by rfl) (hσ : fS (St.upd (σ ++ [.dead]) u) = some σ' := by rfl) (he : nput e o.dst v' = some e' := by rfl) : WL C all (o :: l) k e σ Q := by
  rw [fNat_eq] at hn; injection hn with hn; subst hn
  exact WL.m' hm hT hg hd hop hv hσ he h
theorem lW (hT : C.T.fits C.P) {v v' : V} {u : Upd} {σ' : St} {e' : Env} (h : WL C all l (k + 1) e' σ' Q) (hg : guardOk e all o = some true := by rfl) (hd : dstOk C.n o = true := by rfl) (hm : makes C o = false := by rfl)
    (hop : aop C 0 e σ o = some (v, u) := by rfl) (hv : fV v = some v' := by rfl) (hσ : fS (σ.upd u) = some σ' := by rfl) (he : nput e o.dst v' = some e' := by rfl) : WL C all (o :: l) k e σ Q := WL.w' hT hg hd hm hop hv hσ he h
theorem lW' (hT : C.T.fits C.P) {v v' : V} {u : Upd} {σ' : St} {e' : Env} (hop : aop C 0 e σ o = some (v, u)) (h : WL C all l (k + 1) e' σ' Q) (hg : guardOk e all o = some true := by rfl) (hd : dstOk C.n o = true := by rfl) (hm : makes C o = false := by rfl)
    (hv : fV v = some v' := by rfl) (hσ : fS (σ.upd u) = some σ' := by rfl) (he : nput e o.dst v' = some e' := by rfl) : WL C all (o :: l) k e σ Q := WL.w' hT hg hd hm hop hv hσ he h
/-- a Boolean value: settled, or split -/
theorem lT (hT : C.T.fits C.P) {b : Bool} {e' : Env} (h : WL C all l (k + 1) e' σ Q) (hcmp : isBoolish C.T o = true := by rfl) (hg : guardOk e all o = some true := by rfl) (hd : dstOk C.n o = true := by rfl) (hm : makes C o = false := by rfl)
    (hop : aop C 0 e σ o = some (bool b, []) := by rfl) (hb : b = true := by rfl) (he : nput e o.dst (bool true) = some e' := by rfl) : WL C all (o :: l) k e σ Q := by
  subst hb; exact WL.q' hT hg hd hm hop (fV_eq _) he h
theorem lF (hT : C.T.fits C.P) {b : Bool} {e' : Env} (h : WL C all l (k + 1) e' σ Q) (hcmp : isBoolish C.T o = true := by rfl) (hg : guardOk e all o = some true := by rfl) (hd : dstOk C.n o = true := by rfl) (hm : makes C o = false := by rfl)
    (hop : aop C 0 e σ o = some (bool b, []) := by rfl) (hb : b = false := by rfl) (he : nput e o.dst (bool false) = some e' := by rfl) : WL C all (o :: l) k e σ Q := by
  subst hb; exact WL.q' hT hg hd hm hop (fV_eq _) he h
theorem lB (hT : C.T.fits C.P) {b : Bool} {e1 e2 : Env} (ht : b = true → WL C all l (k + 1) e1 σ Q) (hf : b = false → WL C all l (k + 1) e2 σ Q) (hcmp : isBoolish C.T o = true := by rfl) (hg : guardOk e all o = some true := by rfl) (hd : dstOk C.n o = true := by rfl) (hm : makes C o = false := by rfl)
    (hop : aop C 0 e σ o = some (bool b, []) := by rfl) (he1 : nput e o.dst (bool true) = some e1 := by rfl) (he2 : nput e o.dst (bool false) = some e2 := by rfl) : WL C all (o :: l) k e σ Q := by
  cases b with
  | true => exact WL.q' hT hg hd hm hop (fV_eq _) he1 (ht rfl)
  | false => exact WL.q' hT hg hd hm hop (fV_eq _) he2 (hf rfl)
/-- a call of a function that only computes -/
theorem lC {f : FuncId} {vs vs' : List V} {r r' : V} (hS : Comp C.P f vs' r) {e' : Env} (h : WL C all l (k + 1) e' σ Q) (hg : guardOk e all o = some true := by rfl) (hd : dstOk C.n o = true := by rfl) (hc : calleeOf e o = some (f, vs) := by rfl) (hsn : snUVs (fun id => σ[id]?) vs = some vs' := by rfl) (hso : okUVs (fun id => σ[id]?) vs := by repeat' (first | exact trivial | refine And.intro ?_ ?_ | rfl))
    (hni : vs'.all noIds = true := by rfl) (hr : noIds r = true := by rfl) (hv : fV r = some r' := by rfl) (he : nput e o.dst r' = some e' := by rfl) : WL C all (o :: l) k e σ Q := by
  rw [fV_eq] at hv; injection hv with hv; subst hv
  rw [nput_eq] at he; injection he with he; subst he
  exact WL.c hg hd hc (snUVs_eq hsn hso) hni hS hr h
/-- .. that tells yes or no -/
theorem lCB {f : FuncId} {vs vs' : List V} {b : Bool} (hS : Comp C.P f vs' (bool b)) {e1 e2 : Env} (ht : b = true → WL C all l (k + 1) e1 σ Q) (hf : b = false → WL C all l (k + 1) e2 σ Q) (hg : guardOk e all o = some true := by rfl) (hd : dstOk C.n o = true := by rfl) (hc : calleeOf e o = some (f, vs) := by rfl) (hsn : snUVs (fun id => σ[id]?) vs = some vs' := by rfl) (hso : okUVs (fun id => σ[id]?) vs := by repeat' (first | exact trivial | refine And.intro ?_ ?_ | rfl))
    (hni : vs'.all noIds = true := by rfl) (he1 : nput e o.dst (bool true) = some e1 := by rfl) (he2 : nput e o.dst (bool false) = some e2 := by rfl) : WL C all (o :: l) k e σ Q := by
  rw [nput_eq] at he1; injection he1 with he1; subst he1
  rw [nput_eq] at he2; injection he2 with he2; subst he2
  cases b with
  | true => exact WL.c hg hd hc (snUVs_eq hsn hso) hni hS rfl (ht rfl)
  | false => exact WL.c hg hd hc (snUVs_eq hsn hso) hni hS rfl (hf rfl)

/-- an element of a list that is not written out -/
theorem lX (hT : C.T.fits C.P) {t : TypeId} {x i : Operand} {et : TypeId} {n : Nat} {rows : List (List D)} {kx : IntKind} {j : Int} {row row' : List D} {e' : Env} (h : WL C all l (k + 1) e' σ Q) (ho : o.op = .indexAddr t x i := by rfl) (hg : guardOk e all o = some true := by rfl) (hd : dstOk C.n o = true := by rfl)
    (h1 : C.T.und t = some (.slice et) := by rfl) (h2 : C.T.size et = some n := by rfl) (hx : ev (opEnv e o) x = some (.one (.d (.list rows))) := by rfl) (hi : ev (opEnv e o) i = some (.one (.d (.sc (.int kx j)))) := by rfl)
    (h3 : rows[j.toNat]? = some row := by first | assumption | exact at_mid (by assumption) (by assumption) | exact at_of (by assumption)) (h4 : 0 ≤ j := by first | omega | assumption) (h5 : row.length = n := by rfl) (h6 : fL row = some row' := by rfl) (he : nput e o.dst (.one (.rptr row')) = some e' := by rfl) : WL C all (o :: l) k e σ Q := by
  rw [fL_eq] at h6; injection h6 with h6; subst h6
  have hm : makes C o = false := by unfold makes; rw [ho]
  exact WL.q' hT hg hd hm (aop_ix ho h1 h2 hx hi h4 h3 h5) (fV_eq _) he h
theorem dX (hT : C.T.fits C.P) {t : TypeId} {x i : Operand} {et : TypeId} {n : Nat} {rows : List (List D)} {kx : IntKind} {j : Int} {row row' : List D} {e' : Env} {T F : List Nat} (h : DL C all l (k + 1) e' σ (⟨o.dst, .undef, [], T, F⟩ :: acc) Q) (ho : o.op = .indexAddr t x i := by rfl) (hg : guardOk e all o = some true := by rfl) (hd : dstOk C.n o = true := by rfl)
    (h1 : C.T.und t = some (.slice et) := by rfl) (h2 : C.T.size et = some n := by rfl) (hx : ev (opEnv e o) x = some (.one (.d (.list rows))) := by rfl) (hi : ev (opEnv e o) i = some (.one (.d (.sc (.int kx j)))) := by rfl)
    (h3 : rows[j.toNat]? = some row := by first | assumption | exact at_mid (by assumption) (by assumption) | exact at_of (by assumption)) (h4 : 0 ≤ j := by first | omega | assumption) (h5 : row.length = n := by rfl) (h6 : fL row = some row' := by rfl) (hT' : fL (reads all o) = some T := by rfl) (hF' : fL (foot (opEnv e o) o) = some F := by rfl) (he : nput e o.dst (.one (.rptr row')) = some e' := by rfl) : DL C all (o :: l) k e σ acc Q := by
  rw [fL_eq] at h6; injection h6 with h6; subst h6
  have hm : makes C o = false := by unfold makes; rw [ho]
  exact DL.q' hT hg hd hm (aop_ix ho h1 h2 hx hi h4 h3 h5) (fV_eq _) hT' hF' he h
/-- an element of a growing array -/
theorem lXa (hT : C.T.fits C.P) {t : TypeId} {x i : Operand} {et : TypeId} {n id ep len : Nat} {rows : List (List D)} {kx : IntKind} {j : Int} {row row' : List D} {e' : Env} (h : WL C all l (k + 1) e' σ Q) (ho : o.op = .indexAddr t x i := by rfl) (hg : guardOk e all o = some true := by rfl) (hd : dstOk C.n o = true := by rfl)
    (h1 : C.T.und t = some (.slice et) := by rfl) (h2 : C.T.size et = some n := by rfl) (hx : ev (opEnv e o) x = some (.one (.arr id ep len)) := by rfl) (hi : ev (opEnv e o) i = some (.one (.d (.sc (.int kx j)))) := by rfl) (hl : inFoot (foot (opEnv e o) o) σ id = some (.arr ep false n rows) := by rfl) (hn : len = rows.length := by rfl)
    (h3 : rows[j.toNat]? = some row := by first | assumption | exact at_mid (by assumption) (by assumption) | exact at_of (by assumption)) (h4 : 0 ≤ j := by first | omega | assumption) (h6 : fL row = some row' := by rfl) (he : nput e o.dst (.one (.rptr row')) = some e' := by rfl) : WL C all (o :: l) k e σ Q := by
  rw [fL_eq] at h6; injection h6 with h6; subst h6
  have hm : makes C o = false := by unfold makes; rw [ho]
  exact WL.q' hT hg hd hm (aop_ixa ho h1 h2 hx hi hl hn h4 h3) (fV_eq _) he h
/-- x[lo:hi] of a list -/
theorem lK (hT : C.T.fits C.P) {t : TypeId} {x : Operand} {lo hi : Option Operand} {et : TypeId} {n : Nat} {rows rows' : List (List D)} {a b : Option Int} {e' : Env} (h : WL C all l (k + 1) e' σ Q) (ho : o.op = .slice t x lo hi none := by rfl) (hg : guardOk e all o = some true := by rfl) (hd : dstOk C.n o = true := by rfl)
    (ht : C.T.elem t = some et := by rfl) (hsz : C.T.size et = some n := by rfl) (hx : ev (opEnv e o) x = some (.one (.d (.list rows))) := by rfl) (hlo : bound (ev (opEnv e o)) lo = some a := by rfl) (hhi : bound (ev (opEnv e o)) hi = some b := by rfl) (hok : rowsOk n rows = true := by first | rfl | exact rowsOk_map_of (fun _ => rfl))
    (h1 : 0 ≤ a.getD 0 := by simp only [List.length_map, List.length_append, List.length_cons, List.length_nil, List.length_replicate, Option.getD]; omega) (h2 : a.getD 0 ≤ b.getD rows.length := by simp only [List.length_map, List.length_append, List.length_cons, List.length_nil, List.length_replicate, Option.getD]; omega) (h3 : b.getD rows.length ≤ rows.length := by simp only [List.length_map, List.length_append, List.length_cons, List.length_nil, List.length_replicate, Option.getD]; omega)
    (hr : (rows.take (b.getD rows.length).toNat).drop (a.getD 0).toNat = rows' := by rfl) (he : nput e o.dst (.one (.d (.list rows'))) = some e' := by rfl) : WL C all (o :: l) k e σ Q := by
  subst hr
  have hm : makes C o = false := by unfold makes; rw [ho]
  exact WL.q' hT hg hd hm (aop_cut ho ht hsz hx hlo hhi hok h1 h2 h3) (fV_eq _) he h
theorem dK (hT : C.T.fits C.P) {t : TypeId} {x : Operand} {lo hi : Option Operand} {et : TypeId} {n : Nat} {rows rows' : List (List D)} {a b : Option Int} {e' : Env} {T F : List Nat} (h : DL C all l (k + 1) e' σ (⟨o.dst, .undef, [], T, F⟩ :: acc) Q) (ho : o.op = .slice t x lo hi none := by rfl) (hg : guardOk e all o = some true := by rfl) (hd : dstOk C.n o = true := by rfl)
    (ht : C.T.elem t = some et := by rfl) (hsz : C.T.size et = some n := by rfl) (hx : ev (opEnv e o) x = some (.one (.d (.list rows))) := by rfl) (hlo : bound (ev (opEnv e o)) lo = some a := by rfl) (hhi : bound (ev (opEnv e o)) hi = some b := by rfl) (hok : rowsOk n rows = true := by first | rfl | exact rowsOk_map_of (fun _ => rfl))
    (h1 : 0 ≤ a.getD 0 := by simp only [List.length_map, List.length_append, List.length_cons, List.length_nil, List.length_replicate, Option.getD]; omega) (h2 : a.getD 0 ≤ b.getD rows.length := by simp only [List.length_map, List.length_append, List.length_cons, List.length_nil, List.length_replicate, Option.getD]; omega) (h3 : b.getD rows.length ≤ rows.length := by simp only [List.length_map, List.length_append, List.length_cons, List.length_nil, List.length_replicate, Option.getD]; omega)
    (hr : (rows.take (b.getD rows.length).toNat).drop (a.getD 0).toNat = rows' := by rfl) (hT' : fL (reads all o) = some T := by rfl) (hF' : fL (foot (opEnv e o) o) = some F := by rfl) (he : nput e o.dst (.one (.d (.list rows'))) = some e' := by rfl) : DL C all (o :: l) k e σ acc Q := by
  subst hr
  have hm : makes C o = false := by unfold makes; rw [ho]
  exact DL.q' hT hg hd hm (aop_cut ho ht hsz hx hlo hhi hok h1 h2 h3) (fV_eq _) hT' hF' he h
/-- bytes as a string -/
theorem lSt (hT : C.T.fits C.P) {src dst : TypeId} {x : Operand} {et : TypeId} {v : V} {rows : List (List D)} {bs : List UInt8} {e' : Env} (h : WL C all l (k + 1) e' σ Q) (ho : o.op = .convert src dst x := by rfl) (hg : guardOk e all o = some true := by rfl) (hd : dstOk C.n o = true := by rfl)
    (h1 : C.T.und src = some (.slice et) := by rfl) (h2 : C.T.und dst = some .string := by rfl) (h3 : C.T.und et = some (.int .u8) := by rfl) (hx : ev (opEnv e o) x = some v := by rfl) (hnot : (match v with | .one (.d (.sc (.string _))) => false | _ => true) = true := by rfl)
    (hr : rowsIn (inFoot (foot (opEnv e o) o) σ) v = some rows := by first | rfl | exact rowsIn_arr rfl rfl) (hb : bytesOf rows = some bs := by first | rfl | exact bytesOf_map _) (he : nput e o.dst (.one (.d (.sc (.string ⟨bs.toArray⟩)))) = some e' := by rfl) : WL C all (o :: l) k e σ Q := by
  have hm : makes C o = false := by unfold makes; rw [ho]
  exact WL.q' hT hg hd hm (aop_str ho h1 h2 h3 hx hnot hr hb) (fV_eq _) he h
theorem dSt (hT : C.T.fits C.P) {src dst : TypeId} {x : Operand} {et : TypeId} {v : V} {rows : List (List D)} {bs : List UInt8} {e' : Env} {T F : List Nat} (h : DL C all l (k + 1) e' σ (⟨o.dst, .undef, [], T, F⟩ :: acc) Q) (ho : o.op = .convert src dst x := by rfl) (hg : guardOk e all o = some true := by rfl) (hd : dstOk C.n o = true := by rfl)
    (h1 : C.T.und src = some (.slice et) := by rfl) (h2 : C.T.und dst = some .string := by rfl) (h3 : C.T.und et = some (.int .u8) := by rfl) (hx : ev (opEnv e o) x = some v := by rfl) (hnot : (match v with | .one (.d (.sc (.string _))) => false | _ => true) = true := by rfl)
    (hr : rowsIn (inFoot (foot (opEnv e o) o) σ) v = some rows := by first | rfl | exact rowsIn_arr rfl rfl) (hb : bytesOf rows = some bs := by first | rfl | exact bytesOf_map _) (hT' : fL (reads all o) = some T := by rfl) (hF' : fL (foot (opEnv e o) o) = some F := by rfl) (he : nput e o.dst (.one (.d (.sc (.string ⟨bs.toArray⟩)))) = some e' := by rfl) : DL C all (o :: l) k e σ acc Q := by
  have hm : makes C o = false := by unfold makes; rw [ho]
  exact DL.q' hT hg hd hm (aop_str ho h1 h2 h3 hx hnot hr hb) (fV_eq _) hT' hF' he h
theorem lSA (hT : C.T.fits C.P) {t t' : TypeId} {x y : Operand} {a b : ByteArray} {e' : Env} (h : WL C all l (k + 1) e' σ Q) (ho : o.op = .binOp .add t x y t' := by rfl) (hg : guardOk e all o = some true := by rfl) (hd : dstOk C.n o = true := by rfl)
    (hx : ev (opEnv e o) x = some (.one (.d (.sc (.string a)))) := by rfl) (hy : ev (opEnv e o) y = some (.one (.d (.sc (.string b)))) := by rfl) (hs : a.size + b.size < 2 ^ 63 := by first | omega | (simp only [ByteArray.size, List.size_toArray]; omega)) (he : nput e o.dst (.one (.d (.sc (.string (a ++ b))))) = some e' := by rfl) : WL C all (o :: l) k e σ Q := by
  have hm : makes C o = false := by unfold makes; rw [ho]
  exact WL.q' hT hg hd hm (aop_sadd ho hx hy hs) (fV_eq _) he h
theorem dSA (hT : C.T.fits C.P) {t t' : TypeId} {x y : Operand} {a b : ByteArray} {e' : Env} {T F : List Nat} (h : DL C all l (k + 1) e' σ (⟨o.dst, .undef, [], T, F⟩ :: acc) Q) (ho : o.op = .binOp .add t x y t' := by rfl) (hg : guardOk e all o = some true := by rfl) (hd : dstOk C.n o = true := by rfl)
    (hx : ev (opEnv e o) x = some (.one (.d (.sc (.string a)))) := by rfl) (hy : ev (opEnv e o) y = some (.one (.d (.sc (.string b)))) := by rfl) (hs : a.size + b.size < 2 ^ 63 := by first | omega | (simp only [ByteArray.size, List.size_toArray]; omega)) (hT' : fL (reads all o) = some T := by rfl) (hF' : fL (foot (opEnv e o) o) = some F := by rfl) (he : nput e o.dst (.one (.d (.sc (.string (a ++ b))))) = some e' := by rfl) : DL C all (o :: l) k e σ acc Q := by
  have hm : makes C o = false := by unfold makes; rw [ho]
  exact DL.q' hT hg hd hm (aop_sadd ho hx hy hs) (fV_eq _) hT' hF' he h
/-- make of a slice -/
theorem lMk (hT : C.T.fits C.P) {t et : TypeId} {x y : Operand} {n w : Nat} {z : Value} {zr : List D} {m : Bool} {k1 k2 : IntKind} {len : Int} {nid : Nat} {σ' : St} {e' : Env} (h : WL C all l (k + 1) e' σ' Q) (ho : o.op = .makeSlice t x y := by rfl) (hg : guardOk e all o = some true := by rfl) (hd : dstOk C.n o = true := by rfl)
    (hl : ev (opEnv e o) x = some (.one (.d (.sc (.int k1 len)))) := by rfl) (hc : ev (opEnv e o) y = some (.one (.d (.sc (.int k2 len)))) := by rfl) (ht : C.T.elem t = some et := by rfl) (hs : C.T.size et = some n := by rfl) (hb : C.T.bytes et = some (w + 1) := by rfl) (hz : C.T.zero et = some z := by rfl) (hzr : fL (z.cells.toList.map .sc) = some zr := by rfl)
    (h0 : 0 ≤ len := by omega) (h1 : len * ((w + 1 : Nat) : Int) ≤ most := by simp only [most]; omega) (h2 : len < 2 ^ 62 := by omega) (hzc : (Nat.beq z.cells.size n && allPlain z.cells.toList) = true := by rfl) (hm : arMode C.ar o.dst = some m := by rfl) (hn' : fNat σ.length = some nid := by rfl)
    (hσ : fS (St.upd (σ ++ [.dead]) [(nid, .arr 0 m n (List.replicate len.toNat zr))]) = some σ' := by rfl) (he : nput e o.dst (.one (.arr nid 0 (List.replicate len.toNat zr).length)) = some e' := by rfl) : WL C all (o :: l) k e σ Q := by
  rw [fNat_eq] at hn'; injection hn' with hn'; subst hn'
  rw [List.length_replicate] at he
  rw [fL_eq] at hzr; injection hzr with hzr; subst hzr
  have hmk : makes C o = true := by unfold makes; rw [ho]; simp only [hm]; rfl
  exact WL.m' hmk hT hg hd (aop_make ho hl hc ht hs hb hz h0 h1 h2 hzc hm) (fV_eq _) hσ he h
/-- onto a growing array -/
theorem lA (hT : C.T.fits C.P) {s x : Operand} {t t' et : TypeId} {n w id ep len : Nat} {m : Bool} {z : List Cell} {rows xs : List (List D)} {xv : V} {σ' : St} {e' : Env} (h : WL C all l (k + 1) e' σ' Q) (ho : o.op = .call { callee := .builtin .append, args := #[s, x], argTypes := #[t, t'] } := by rfl) (hg : guardOk e all o = some true := by rfl) (hd : dstOk C.n o = true := by rfl) (hm : makes C o = false := by rfl)
    (hs : ev (opEnv e o) s = some (.one (.arr id ep len)) := by rfl) (hx : ev (opEnv e o) x = some xv := by rfl) (ht' : C.T.und t' = some (.slice et) := by rfl) (ht : C.T.elem t = some et := by rfl) (hsz : C.T.size et = some n := by rfl) (hby : C.T.bytes et = some (w + 1) := by rfl) (hz : zeroCells C.T et = some z := by rfl) (hzn : z.length = n := by rfl)
    (hl : inFoot (foot (opEnv e o) o) σ id = some (.arr ep m n rows) := by rfl) (hn : len = rows.length := by rfl) (hxs : rowsIn (inFoot (foot (opEnv e o) o) σ) xv = some xs := by first | rfl | exact rowsIn_arr rfl rfl) (hok : rowsOk n xs = true := by first | rfl | exact rowsOk_map_of (fun _ => rfl))
    (hsm : (rows.length + xs.length) * (w + 1) ≤ most := by simp only [most, List.length_map, List.length_append, List.length_cons, List.length_nil, List.length_replicate]; omega) (hσ : fS (σ.upd [(id, .arr ep m n (rows ++ xs))]) = some σ' := by rfl) (he : nput e o.dst (.one (.arr id ep (rows ++ xs).length)) = some e' := by rfl) : WL C all (o :: l) k e σ Q := by
  rw [List.length_append] at he
  exact WL.w' hT hg hd hm (aop_app ho hs hx ht' ht hsz hby hz hzn hl hn hxs hok hsm) (fV_eq _) hσ he h
/-- onto nil: a list -/
theorem lA0 (hT : C.T.fits C.P) {s x : Operand} {t t' et : TypeId} {n w : Nat} {z : List Cell} {xs : List (List D)} {xv : V} {e' : Env} (h : WL C all l (k + 1) e' σ Q) (ho : o.op = .call { callee := .builtin .append, args := #[s, x], argTypes := #[t, t'] } := by rfl) (hg : guardOk e all o = some true := by rfl) (hd : dstOk C.n o = true := by rfl) (hm : arMode C.ar o.dst = none := by rfl)
    (hs : ev (opEnv e o) s = some (.one (.d (.sc (.slice none 0 0)))) := by rfl) (hx : ev (opEnv e o) x = some xv := by rfl) (ht' : C.T.und t' = some (.slice et) := by rfl) (ht : C.T.elem t = some et := by rfl) (hsz : C.T.size et = some n := by rfl) (hby : C.T.bytes et = some (w + 1) := by rfl) (hz : zeroCells C.T et = some z := by rfl) (hzn : z.length = n := by rfl)
    (hxs : rowsIn (inFoot (foot (opEnv e o) o) σ) xv = some xs := by first | rfl | exact rowsIn_arr rfl rfl) (hok : rowsOk n xs = true := by first | rfl | exact rowsOk_map_of (fun _ => rfl))
    (hsm : xs.length * (w + 1) ≤ most := by simp only [most, List.length_map, List.length_append, List.length_cons, List.length_nil, List.length_replicate]; omega) (he : nput e o.dst (.one (.d (.list xs))) = some e' := by rfl) : WL C all (o :: l) k e σ Q := by
  have hmk : makes C o = false := by unfold makes; rw [ho]; simp only [hm]; rfl
  exact WL.q' hT hg hd hmk (aop_app0 ho hs hx ht' ht hsz hby hz hzn hxs hok hsm hm) (fV_eq _) he h
/-- onto nil: an array of its own -/
theorem lA1 (hT : C.T.fits C.P) {s x : Operand} {t t' et : TypeId} {n w : Nat} {m : Bool} {z : List Cell} {xs : List (List D)} {xv : V} {nid : Nat} {σ' : St} {e' : Env} (h : WL C all l (k + 1) e' σ' Q) (ho : o.op = .call { callee := .builtin .append, args := #[s, x], argTypes := #[t, t'] } := by rfl) (hg : guardOk e all o = some true := by rfl) (hd : dstOk C.n o = true := by rfl) (hm : arMode C.ar o.dst = some m := by rfl) (hn' : fNat σ.length = some nid := by rfl)
    (hs : ev (opEnv e o) s = some (.one (.d (.sc (.slice none 0 0)))) := by rfl) (hx : ev (opEnv e o) x = some xv := by rfl) (ht' : C.T.und t' = some (.slice et) := by rfl) (ht : C.T.elem t = some et := by rfl) (hsz : C.T.size et = some n := by rfl) (hby : C.T.bytes et = some (w + 1) := by rfl) (hz : zeroCells C.T et = some z := by rfl) (hzn : z.length = n := by rfl)
    (hxs : rowsIn (inFoot (foot (opEnv e o) o) (σ ++ [.dead])) xv = some xs := by first | rfl | exact rowsIn_arr rfl rfl) (hok : rowsOk n xs = true := by first | rfl | exact rowsOk_map_of (fun _ => rfl))
    (hsm : xs.length * (w + 1) ≤ most := by simp only [most, List.length_map, List.length_append, List.length_cons, List.length_nil, List.length_replicate]; omega) (hσ : fS (St.upd (σ ++ [.dead]) [(nid, .arr 0 m n xs)]) = some σ' := by rfl) (he : nput e o.dst (.one (.arr nid 0 xs.length)) = some e' := by rfl) : WL C all (o :: l) k e σ Q := by
  rw [fNat_eq] at hn'; injection hn' with hn'; subst hn'
  have hmk : makes C o = true := by unfold makes; rw [ho]; simp only [hm]; rfl
  exact WL.m' hmk hT hg hd (aop_app0m ho hs hx ht' ht hsz hby hz hzn hxs hok hsm hm) (fV_eq _) hσ he h

theorem dE (h : Q e σ) (hck : check all acc.reverse [] = true := by rfl) : DL C all [] k e σ acc Q := DL.fin hck h
theorem dS {e' : Env} {T : List Nat} (h : DL C all l (k + 1) e' σ (⟨o.dst, .undef, [], T, []⟩ :: acc) Q) (hg : guardOk e all o = some false := by rfl) (hd : dstOk C.n o = true := by rfl) (hT' : fL (guardTmps all o) = some T := by rfl) (he : nput e o.dst .undef = some e' := by rfl) : DL C all (o :: l) k e σ acc Q := by
  rw [nput_eq] at he; injection he with he; subst he; exact DL.skip hg hd hT' h
theorem dQ (hT : C.T.fits C.P) {v v' : V} {e' : Env} {T F : List Nat} (h : DL C all l (k + 1) e' σ (⟨o.dst, .undef, [], T, F⟩ :: acc) Q) (hg : guardOk e all o = some true := by rfl) (hd : dstOk C.n o = true := by rfl) (hm : makes C o = false := by rfl)
    (hop : aop C 0 e σ o = some (v, []) := by rfl) (hv : fV v = some v' := by rfl) (hT' : fL (reads all o) = some T := by rfl) (hF' : fL (foot (opEnv e o) o) = some F := by rfl) (he : nput e o.dst v' = some e' := by rfl) : DL C all (o :: l) k e σ acc Q := DL.q' hT hg hd hm hop hv hT' hF' he h
theorem dQ' (hT : C.T.fits C.P) {v v' : V} {e' : Env} {T F : List Nat} (hop : aop C 0 e σ o = some (v, [])) (h : DL C all l (k + 1) e' σ (⟨o.dst, .undef, [], T, F⟩ :: acc) Q) (hg : guardOk e all o = some true := by rfl) (hd : dstOk C.n o = true := by rfl) (hm : makes C o = false := by rfl)
    (hv : fV v = some v' := by rfl) (hT' : fL (reads all o) = some T := by rfl) (hF' : fL (foot (opEnv e o) o) = some F := by rfl) (he : nput e o.dst v' = some e' := by rfl) : DL C all (o :: l) k e σ acc Q := DL.q' hT hg hd hm hop hv hT' hF' he h
theorem dL (hT : C.T.fits C.P) {rows rows' : List (List D)} {e' : Env} {T F : List Nat} (h : DL C all l (k + 1) e' σ (⟨o.dst, .undef, [], T, F⟩ :: acc) Q) (hb : isBuildSlice o = true := by rfl) (hg : guardOk e all o = some true := by rfl) (hd : dstOk C.n o = true := by rfl) (hm : makes C o = false := by rfl)
    (hop : aop C 0 e σ o = some (.one (.d (.list rows)), []) := by rfl) (hr : fLL rows = some rows' := by rfl) (hT' : fL (reads all o) = some T := by rfl) (hF' : fL (foot (opEnv e o) o) = some F := by rfl) (he : nput e o.dst (.one (.d (.list rows'))) = some e' := by rfl) : DL C all (o :: l) k e σ acc Q := DL.s' hb hT hg hd hm hop hr hT' hF' he h
theorem dW (hT : C.T.fits C.P) {v v' : V} {u : Upd} {σ' : St} {e' : Env} {T F ws : List Nat} (h : DL C all l (k + 1) e' σ' (⟨o.dst, .undef, ws.map fun i => (i, .dead), T, F⟩ :: acc) Q) (hg : guardOk e all o = some true := by rfl) (hd : dstOk C.n o = true := by rfl) (hm : makes C o = false := by rfl)
    (hop : aop C 0 e σ o = some (v, u) := by rfl) (hv : fV v = some v' := by rfl) (hσ : fS (σ.upd u) = some σ' := by rfl) (hT' : fL (reads all o) = some T := by rfl) (hF' : fL (foot (opEnv e o) o) = some F := by rfl) (hw : fL (u.map (·.1)) = some ws := by rfl) (he : nput e o.dst v' = some e' := by rfl) : DL C all (o :: l) k e σ acc Q := DL.w' hT hg hd hm hop hv hσ hT' hF' hw he h
theorem dW' (hT : C.T.fits C.P) {v v' : V} {u : Upd} {σ' : St} {e' : Env} {T F ws : List Nat} (hop : aop C 0 e σ o = some (v, u)) (h : DL C all l (k + 1) e' σ' (⟨o.dst, .undef, ws.map fun i => (i, .dead), T, F⟩ :: acc) Q) (hg : guardOk e all o = some true := by rfl) (hd : dstOk C.n o = true := by rfl) (hm : makes C o = false := by rfl)
    (hv : fV v = some v' := by rfl) (hσ : fS (σ.upd u) = some σ' := by rfl) (hT' : fL (reads all o) = some T := by rfl) (hF' : fL (foot (opEnv e o) o) = some F := by rfl) (hw : fL (u.map (·.1)) = some ws := by rfl) (he : nput e o.dst v' = some e' := by rfl) : DL C all (o :: l) k e σ acc Q := DL.w' hT hg hd hm hop hv hσ hT' hF' hw he h
theorem dM (hT : C.T.fits C.P) {nid : Nat} {v v' : V} {u : Upd} {σ' : St} {e' : Env} {T F ws : List Nat} (h : DL C all l (k + 1) e' σ' (⟨o.dst, .undef, ws.map fun i => (i, .dead), T, F⟩ :: acc) Q) (hm : makes C o = true := by rfl) (hg : guardOk e all o = some true := by rfl) (hd : dstOk C.n o = true := by rfl) (hn : fdead σ 0 = some nid := by rfl)
    (hop : aop C nid e σ o = some (v, u) := by rfl) (hv : fV v = some v' := by rfl) (hσ : fS (σ.upd u) = some σ' := by rfl) (hT' : fL (reads all o) = some T := by rfl) (hF' : fL (foot (opEnv e o) o) = some F := by rfl) (hw : fL (u.map (·.1)) = some ws := by rfl) (hin : ws.elem nid = true := by rfl) (he : nput e o.dst v' = some e' := by rfl) : DL C all (o :: l) k e σ acc Q := DL.m' hm hT hg hd hn hop hv hσ hT' hF' hw hin he h
theorem dM' (hT : C.T.fits C.P) {nid : Nat} {v v' : V} {u : Upd} {σ' : St} {e' : Env} {T F ws : List Nat} (hop : aop C nid e σ o = some (v, u)) (h : DL C all l (k + 1) e' σ' (⟨o.dst, .undef, ws.map fun i => (i, .dead), T, F⟩ :: acc) Q) (hm : makes C o = true := by rfl) (hg : guardOk e all o = some true := by rfl) (hd : dstOk C.n o = true := by rfl) (hn : fdead σ 0 = some nid := by rfl)
    (hv : fV v = some v' := by rfl) (hσ : fS (σ.upd u) = some σ' := by rfl) (hT' : fL (reads all o) = some T := by rfl) (hF' : fL (foot (opEnv e o) o) = some F := by rfl) (hw : fL (u.map (·.1)) = some ws := by rfl) (hin : ws.elem nid = true := by rfl) (he : nput e o.dst v' = some e' := by rfl) : DL C all (o :: l) k e σ acc Q := DL.m' hm hT hg hd hn hop hv hσ hT' hF' hw hin he h
theorem dN (hT : C.T.fits C.P) {nid : Nat} {v v' : V} {u : Upd} {σ' : St} {e' : Env} {T F ws : List Nat} (h : DL C all l (k + 1) e' σ' (⟨o.dst, .undef, ws.map fun i => (i, .dead), T, nid :: F⟩ :: acc) Q) (hm : makes C o = true := by rfl) (hg : guardOk e all o = some true := by rfl) (hd : dstOk C.n o = true := by rfl) (hn : ldead σ 0 none = some nid := by rfl)
    (hop : aop C nid e σ o = some (v, u) := by rfl) (hv : fV v = some v' := by rfl) (hσ : fS (σ.upd u) = some σ' := by rfl) (hT' : fL (reads all o) = some T := by rfl) (hF' : fL (foot (opEnv e o) o) = some F := by rfl) (hw : fL (u.map (·.1)) = some ws := by rfl) (he : nput e o.dst v' = some e' := by rfl) : DL C all (o :: l) k e σ acc Q := DL.n' hm hT hg hd hn hop hv hσ hT' hF' hw he h
theorem dN' (hT : C.T.fits C.P) {nid : Nat} {v v' : V} {u : Upd} {σ' : St} {e' : Env} {T F ws : List Nat} (hop : aop C nid e σ o = some (v, u)) (h : DL C all l (k + 1) e' σ' (⟨o.dst, .undef, ws.map fun i => (i, .dead), T, nid :: F⟩ :: acc) Q) (hm : makes C o = true := by rfl) (hg : guardOk e all o = some true := by rfl) (hd : dstOk C.n o = true := by rfl) (hn : ldead σ 0 none = some nid := by rfl)
    (hv : fV v = some v' := by rfl) (hσ : fS (σ.upd u) = some σ' := by rfl) (hT' : fL (reads all o) = some T := by rfl) (hF' : fL (foot (opEnv e o) o) = some F := by rfl) (hw : fL (u.map (·.1)) = some ws := by rfl) (he : nput e o.dst v' = some e' := by rfl) : DL C all (o :: l) k e σ acc Q := DL.n' hm hT hg hd hn hop hv hσ hT' hF' hw he h
theorem dT (hT : C.T.fits C.P) {b : Bool} {e' : Env} {T F : List Nat} (h : DL C all l (k + 1) e' σ (⟨o.dst, .undef, [], T, F⟩ :: acc) Q) (hcmp : isBoolish C.T o = true := by rfl) (hg : guardOk e all o = some true := by rfl) (hd : dstOk C.n o = true := by rfl) (hm : makes C o = false := by rfl)
    (hop : aop C 0 e σ o = some (bool b, []) := by rfl) (hb : b = true := by rfl) (hT' : fL (reads all o) = some T := by rfl) (hF' : fL (foot (opEnv e o) o) = some F := by rfl) (he : nput e o.dst (bool true) = some e' := by rfl) : DL C all (o :: l) k e σ acc Q := by
  subst hb; exact DL.q' hT hg hd hm hop (fV_eq _) hT' hF' he h
theorem dF (hT : C.T.fits C.P) {b : Bool} {e' : Env} {T F : List Nat} (h : DL C all l (k + 1) e' σ (⟨o.dst, .undef, [], T, F⟩ :: acc) Q) (hcmp : isBoolish C.T o = true := by rfl) (hg : guardOk e all o = some true := by rfl) (hd : dstOk C.n o = true := by rfl) (hm : makes C o = false := by rfl)
    (hop : aop C 0 e σ o = some (bool b, []) := by rfl) (hb : b = false := by rfl) (hT' : fL (reads all o) = some T := by rfl) (hF' : fL (foot (opEnv e o) o) = some F := by rfl) (he : nput e o.dst (bool false) = some e' := by rfl) : DL C all (o :: l) k e σ acc Q := by
  subst hb; exact DL.q' hT hg hd hm hop (fV_eq _) hT' hF' he h
theorem dB (hT : C.T.fits C.P) {b : Bool} {e1 e2 : Env} {T F : List Nat} (ht : b = true → DL C all l (k + 1) e1 σ (⟨o.dst, .undef, [], T, F⟩ :: acc) Q) (hf : b = false → DL C all l (k + 1) e2 σ (⟨o.dst, .undef, [], T, F⟩ :: acc) Q) (hcmp : isBoolish C.T o = true := by rfl) (hg : guardOk e all o = some true := by rfl) (hd : dstOk C.n o = true := by rfl) (hm : makes C o = false := by rfl)
    (hop : aop C 0 e σ o = some (bool b, []) := by rfl) (hT' : fL (reads all o) = some T := by rfl) (hF' : fL (foot (opEnv e o) o) = some F := by rfl) (he1 : nput e o.dst (bool true) = some e1 := by rfl) (he2 : nput e o.dst (bool false) = some e2 := by rfl) : DL C all (o :: l) k e σ acc Q := by
  cases b with
  | true => exact DL.q' hT hg hd hm hop (fV_eq _) hT' hF' he1 (ht rfl)
  | false => exact DL.q' hT hg hd hm hop (fV_eq _) hT' hF' he2 (hf rfl)
theorem dC {f : FuncId} {vs vs' : List V} {r r' : V} (hS : Comp C.P f vs' r) {e' : Env} {T F : List Nat} (h : DL C all l (k + 1) e' σ (⟨o.dst, .undef, [], T, F⟩ :: acc) Q) (hic : isCall o = true := by rfl) (hg : guardOk e all o = some true := by rfl) (hd : dstOk C.n o = true := by rfl) (hc : calleeOf (opEnv e o) o = some (f, vs) := by rfl) (hsn : snUVs (inFoot (foot (opEnv e o) o) σ) vs = some vs' := by rfl) (hso : okUVs (inFoot (foot (opEnv e o) o) σ) vs := by repeat' (first | exact trivial | refine And.intro ?_ ?_ | rfl))
    (hni : vs'.all noIds = true := by rfl) (hr : noIds r = true := by rfl) (hv : fV r = some r' := by rfl) (hT' : fL (reads all o) = some T := by rfl) (hF' : fL (foot (opEnv e o) o) = some F := by rfl) (he : nput e o.dst r' = some e' := by rfl) : DL C all (o :: l) k e σ acc Q := by
  rw [fV_eq] at hv; injection hv with hv; subst hv
  exact DL.c' hic hg hd hc (snUVs_eq hsn hso) hni hS hr hT' hF' he h
theorem dCB {f : FuncId} {vs vs' : List V} {b : Bool} (hS : Comp C.P f vs' (bool b)) {e1 e2 : Env} {T F : List Nat} (ht : b = true → DL C all l (k + 1) e1 σ (⟨o.dst, .undef, [], T, F⟩ :: acc) Q) (hf : b = false → DL C all l (k + 1) e2 σ (⟨o.dst, .undef, [], T, F⟩ :: acc) Q) (hic : isCall o = true := by rfl) (hg : guardOk e all o = some true := by rfl) (hd : dstOk C.n o = true := by rfl) (hc : calleeOf (opEnv e o) o = some (f, vs) := by rfl) (hsn : snUVs (inFoot (foot (opEnv e o) o) σ) vs = some vs' := by rfl) (hso : okUVs (inFoot (foot (opEnv e o) o) σ) vs := by repeat' (first | exact trivial | refine And.intro ?_ ?_ | rfl))
    (hni : vs'.all noIds = true := by rfl) (hT' : fL (reads all o) = some T := by rfl) (hF' : fL (foot (opEnv e o) o) = some F := by rfl) (he1 : nput e o.dst (bool true) = some e1 := by rfl) (he2 : nput e o.dst (bool false) = some e2 := by rfl) : DL C all (o :: l) k e σ acc Q := by
  cases b with
  | true => exact DL.c' hic hg hd hc (snUVs_eq hsn hso) hni hS rfl hT' hF' he1 (ht rfl)
  | false => exact DL.c' hic hg hd hc (snUVs_eq hsn hso) hni hS rfl hT' hF' he2 (hf rfl)
end

section
variable {C : Cx} {e : Env} {σ : St} {Q : Ex → Env → St → Prop}
theorem wC {c : Operand} {x y : Code} {t : Bool} (h : W C (bif t then x else y) e σ Q) (hc : ev e c = some (bool t) := by rfl) : W C (.cond c x y) e σ Q := W.cond hc h
/-- a condition that is open -/
theorem wCB {c : Operand} {x y : Code} {t : Bool} (h1 : t = true → W C x e σ Q) (h2 : t = false → W C y e σ Q) (hc : ev e c = some (bool t) := by rfl) : W C (.cond c x y) e σ Q := by
  cases t with
  | true => exact W.cond hc (h1 rfl)
  | false => exact W.cond hc (h2 rfl)
theorem wD {id : Nat} {all : List Oper} {σ1 : St} (hm : C.P.follows .mixedOrders = true) (h : DL C all all 0 e σ1 [] fun e' σ' => Q .normal e' σ') (hbk : backs all 0 = true := by rfl) (hσ : fS (σ ++ deads (countMakes C all)) = some σ1 := by rfl) : W C (.region id all.toArray true) e σ Q := W.draw hm hbk hσ h

theorem snap_d {look : Look} {x : D} {c : Cell} (h : snap look (.d x) = some c) : snapV look (.one (.d x)) = some (.one c) := by simp [snapV, h]
theorem snapF_arr {look : Look} {id ep len sz : Nat} {rows : List (List D)} (h : look id = some (.arr ep false sz rows)) (hn : len = rows.length) : snapF look (.one (.arr id ep len)) = some (.one (.d (.list rows))) := by
  subst hn
  simp [snapF, snap, rowsOf, h]
theorem snapFs_nil {look : Look} : snapFs look [] = some [] := rfl
theorem snapFs_cons {look : Look} {x x' : FV} {xs xs' : List FV} (h : snapF look x = some x') (h2 : snapFs look xs = some xs') : snapFs look (x :: xs) = some (x' :: xs') := by simp only [snapFs, h, h2]
theorem snap_tup {look : Look} {xs xs' : List FV} (h : snapFs look xs = some xs') : snapV look (.tup xs) = some (.tup xs') := by simp [snapV, h]
/-- a function's end -/
theorem fR {ex : Ex} {rs : List ResultVar} {n : Nat} {R : V → St → Prop} {vs : List V} {v r r' : V} {σ' : St} (h7 : R r' σ') (hx : ex = .normal ∨ ex = .ret := by first | exact .inr rfl | exact .inl rfl) (h1 : resOf C.T e (fun id => σ[id]?) rs = some vs := by rfl) (h2 : tupled vs = some v := by rfl) (h3 : snUV (fun id => σ[id]?) v = some r := by rfl) (h3o : okUV (fun id => σ[id]?) v := by repeat' (first | exact trivial | refine And.intro ?_ ?_ | rfl)) (hr : fV r = some r' := by rfl)
    (h4 : fS (σ.take n) = some σ' := by rfl) (h5 : r'.under (alive σ') = true := by rfl) (h6 : (σ'.all fun o => o.under (alive σ')) = true := by rfl) : (ex = .normal ∨ ex = .ret) ∧ Fin C rs n e σ R := ⟨hx, Fin.mk h1 h2 (snUV_eq h3 h3o) hr h4 h5 h6 h7⟩
/-- .. that hands back references, or keeps new objects -/
theorem fR' {ex : Ex} {rs : List ResultVar} {n : Nat} {R : V → St → Prop} {vs : List V} {v r' : V} {σ' : St} (h7 : R r' σ') (hx : ex = .normal ∨ ex = .ret := by first | exact .inr rfl | exact .inl rfl) (h1 : resOf C.T e (fun id => σ[id]?) rs = some vs := by rfl) (h2 : tupled vs = some v := by rfl) (hr : fV v = some r' := by rfl)
    (h4 : fS σ = some σ' := by rfl) : (ex = .normal ∨ ex = .ret) ∧ Fin C rs n e σ R := by
  rw [fV_eq] at hr; injection hr with hr; subst hr
  rw [fS_eq] at h4; injection h4 with h4; subst h4
  exact ⟨hx, vs, v, v, σ, h1, h2, .inl rfl, .inl rfl, h7⟩

/-! loops, round by round; between two rounds the listed variables alone are kept, and the first k objects -/
/-- a round's end -/
def RoundEnd (R : Env → St → Prop) (k : Nat) (l : List Nat) (e : Env) (σ : St) : Prop := ∃ e' σ', pick l e = some e' ∧ fS (σ.take k) = some σ' ∧ trims k e' σ = true ∧ R e' σ'
def again2 (R : Env → St → Prop) (k : Nat) (l : List Nat) (Q : Ex → Env → St → Prop) : Ex → Env → St → Prop
  | .normal, e, σ => RoundEnd R k l e σ
  | .exit id, e, σ => Q (.exit id) e σ
  | .ret, e, σ => Q .ret e σ
def WR2 (C : Cx) (c : Code) (l : List Nat) (k : Nat) (Q : Ex → Env → St → Prop) : Nat → Env → St → Prop
  | 0, _, _ => False
  | n + 1, e, σ => W C c e σ (again2 (fun e σ => σ.length = k ∧ WR2 C c l k Q n e σ) k l Q)
theorem wR {c : Code} {l : List Nat} {k n : Nat} (h : W C c e σ (again2 (fun e σ => σ.length = k ∧ WR2 C c l k Q n e σ) k l Q)) : WR2 C c l k Q (n + 1) e σ := h
theorem again2.mono {R R' : Env → St → Prop} {k : Nat} {l : List Nat} {ex : Ex} (hr : ∀ e σ, R e σ → R' e σ) (h : again2 R k l Q ex e σ) : again2 R' k l Q ex e σ := by
  cases ex with
  | normal =>
    obtain ⟨e', σ', h1, h2, h3, h4⟩ := h
    exact ⟨e', σ', h1, h2, h3, hr _ _ h4⟩
  | _ => exact h
theorem WR2.mono {c : Code} {l : List Nat} {k : Nat} : ∀ {n m : Nat} {e : Env} {σ : St}, WR2 C c l k Q n e σ → n ≤ m → WR2 C c l k Q m e σ
  | 0, _, _, _, h, _ => h.elim
  | n + 1, 0, _, _, _, h => absurd h (by omega)
  | n + 1, m + 1, e, σ, h, hle => W.mono (C := C) h fun ex e σ hx => hx.mono fun e σ ⟨h1, h2⟩ => ⟨h1, WR2.mono h2 (by omega)⟩
theorem rE {c : Code} {k n : Nat} {l : List Nat} {e' : Env} {σ' : St} (h : WR2 C c l k Q n e' σ') (hp : pick l e = some e' := by rfl) (hσ : fS (σ.take k) = some σ' := by rfl) (ht : trims k e' σ = true := by rfl) (hl : σ'.length = k := by rfl) :
    RoundEnd (fun e σ => σ.length = k ∧ WR2 C c l k Q n e σ) k l e σ := ⟨e', σ', hp, hσ, ht, hl, h⟩
theorem wLoop {c : Code} (l : List Nat) (k n : Nat) {e1 : Env} (h : WR2 C c l k Q n e1 σ) (hk : σ.length = k := by rfl) (hp : pick l e = some e1 := by rfl) : W C (.loop c) e σ Q := by
  intro κ0 w0 a0 hs0
  have key : ∀ n e σ' κ w a, WR2 C c l k Q n e σ' → σ'.length = k → Evo κ0 w0 σ κ w σ' → SR C.n κ w e σ' a →
      Code.rounds C.P c (fun x a' w' => ∃ ex e' σ' κ', x = Ex.to ex ∧ Q ex e' σ' ∧ Evo κ0 w0 σ κ' w' σ' ∧ SR C.n κ' w' e' σ' a') n a w := by
    intro n
    induction n with
    | zero => intro e σ' κ w a h; exact h.elim
    | succ n ih =>
      intro e σ' κ w a h hkl hev hs
      refine wp_mono (h κ w a hs) fun x a' w' hx => ?_
      obtain ⟨ex, e'', σ'', κ', rfl, hq, hev', hs'⟩ := hx
      cases ex with
      | exit id => exact ⟨.exit id, e'', σ'', κ', rfl, hq, hev.trans hev', hs'⟩
      | ret => exact ⟨.ret, e'', σ'', κ', rfl, hq, hev.trans hev', hs'⟩
      | normal =>
        obtain ⟨e3, σ3, hp3, h4, ht, h5, h6⟩ := hq
        rw [fS_eq] at h4; injection h4 with h4; subst h4
        exact ih _ _ κ' _ _ h6 h5 ((hev.trans hev').take (by omega)) ((hs'.sub (pick_sub hp3)).take ht)
  exact wp_loop_rounds n (key n e1 σ κ0 w0 a0 h hk .refl (hs0.sub (pick_sub hp)))
end

end Go.Am
