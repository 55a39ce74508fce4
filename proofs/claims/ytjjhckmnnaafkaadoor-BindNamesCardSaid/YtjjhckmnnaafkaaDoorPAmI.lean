/- A part of a proof: functions of the program walked over the abstract machine, and what they compute. -/
import Derived.Test.YtjjhckmnnaafkaaDoorPAmH
set_option linter.unusedVariables false
set_option linter.unusedSimpArgs false
/- The abstract machine: many steps at once: what needs no word of its own is run by a function; its soundness. -/
namespace Go.Am
/-- what waits behind a piece of code -/
inductive Fr where
  | seq (c : Code)
  | blk (id : Nat)
/-- a place in a function's run -/
inductive Pt where
  | code (c : Code) (s : List Fr) (e : Env) (σ : St)
  | ops (all l : List Oper) (s : List Fr) (e : Env) (σ : St)
  | drw (all l : List Oper) (acc : List Rec) (s : List Fr) (e : Env) (σ : St)
  | val (ex : Ex) (s : List Fr) (e : Env) (σ : St)
inductive Out where
  | stuck
  | next (p : Pt)
  | split (b : Bool) (p q : Pt)
  | done (ex : Ex) (e : Env) (σ : St)
def isFlt : Option TypeDesc → Bool
  | some (.float _) | some (.complex _) => true
  | _ => false
def isHardBin (T : Tab) (op : BinOp) (t : TypeId) (y : Operand) : Bool :=
  match op with
  | .eql | .neq => false
  | .rem | .quo | .shl | .shr => match y with
    | .const _ => isFlt (T.und t)
    | _ => true
  | .add => match T.und t with
    | some .string => true
    | u => isFlt u
  | _ => isFlt (T.und t)
/-- operations that are left to rules of their own -/
def isHard (T : Tab) (o : Oper) : Bool :=
  match o.op with
  | .indexAddr t _ _ => match T.und t with
    | some (.slice _) => true
    | _ => false
  | .index t _ _ => match T.und t with
    | some .string => true
    | _ => false
  | .binOp op t _ y _ => isHardBin T op t y
  | .slice _ _ _ _ _ | .lookup _ _ _ _ | .mapUpdate _ _ _ _ | .makeSlice _ _ _ => true
  | .convert a b _ => match T.und a, T.und b with
    | some (.int _), some (.int _) => false
    | _, _ => true
  | .call { callee := .value _, args := _, argTypes := _ } | .call { callee := .invoke _ _, args := _, argTypes := _ } => true
  | .call { callee := .builtin .append, args := _, argTypes := _ } | .call { callee := .builtin .delete, args := _, argTypes := _ } => true
  | .call { callee := .builtin .complex, args := _, argTypes := _ } | .call { callee := .builtin .real, args := _, argTypes := _ } | .call { callee := .builtin .imag, args := _, argTypes := _ } => true
  | _ => false
def isArrC : Cell → Bool
  | .arr _ _ _ => true
  | _ => false
/-- is a slice built of what has growing arrays in it? -/
def arrIn [HasGlob] (e : Env) (o : Oper) : Bool :=
  match o.op with
  | .buildSlice _ _ parts => match partsOf (ev (opEnv e o)) parts.toList with
    | some ps => ps.any fun p => p.2.any isArrC
    | none => true
  | _ => false
/-- does it read or write an element of a written array? -/
def eptrAt [HasGlob] (e : Env) (o : Oper) : Bool :=
  match o.op with
  | .load _ a | .store _ a _ => match ev (opEnv e o) a with
    | some (.one (.eptr _ _ _ _ _ _)) => true
    | _ => false
  | _ => false
def isHardE [HasGlob] (T : Tab) (e : Env) (o : Oper) : Bool :=
  match isHard T o with
  | true => true
  | false => match arrIn e o with
    | true => true
    | false => eptrAt e o
/-- a value worked out; the rows of a slice that is written out, too -/
def fVb (o : Oper) (v : V) : Option V :=
  match isBuildSlice o with
  | true => match v with
    | .one (.d (.list rows)) => match fLL rows with
      | some rows => some (.one (.d (.list rows)))
      | none => none
    | v => fV v
  | false => fV v
theorem fVb_eq (o : Oper) (v : V) : fVb o v = some v := by
  unfold fVb
  split
  · split
    · simp [fLL_eq]
    · exact fV_eq v
  · exact fV_eq v
def opQuiet (C : Cx) (all l : List Oper) (s : List Fr) (e : Env) (σ : St) (o : Oper) : V × Upd → Out
  | (v, u) => match isBoolish C.T o with
    | true => match v, u with
      | .one (.d (.sc (.bool b))), [] => match nput e o.dst (bool true), nput e o.dst (bool false) with
        | some e1, some e2 => .split b (.ops all l s e1 σ) (.ops all l s e2 σ)
        | _, _ => .stuck
      | _, _ => .stuck
    | false => match fVb o v with
      | some v' => match nput e o.dst v' with
        | some e' => match u with
          | [] => .next (.ops all l s e' σ)
          | p :: u => match fS (σ.upd (p :: u)) with
            | some σ' => .next (.ops all l s e' σ')
            | none => .stuck
        | none => .stuck
      | none => .stuck
def opStep [HasGlob] (C : Cx) (all l : List Oper) (s : List Fr) (e : Env) (σ : St) (o : Oper) : Out :=
  match makes C o with
  | true => match fNat σ.length with
    | some nid => match aop C nid e (σ ++ [.dead]) o with
      | some (v, u) => match fV v, fS (St.upd (σ ++ [.dead]) u) with
        | some v', some σ' => match nput e o.dst v' with
          | some e' => .next (.ops all l s e' σ')
          | none => .stuck
        | _, _ => .stuck
      | none => .stuck
    | none => .stuck
  | false => match aop C 0 e σ o with
    | some r => opQuiet C all l s e σ o r
    | none => .stuck
def drQuiet (C : Cx) (all l : List Oper) (acc : List Rec) (s : List Fr) (e : Env) (σ : St) (o : Oper) (T F : List Nat) : V × Upd → Out
  | (v, u) => match isBoolish C.T o with
    | true => match v, u with
      | .one (.d (.sc (.bool b))), [] => match nput e o.dst (bool true), nput e o.dst (bool false) with
        | some e1, some e2 => .split b (.drw all l (⟨o.dst, .undef, [], T, F, [], []⟩ :: acc) s e1 σ) (.drw all l (⟨o.dst, .undef, [], T, F, [], []⟩ :: acc) s e2 σ)
        | _, _ => .stuck
      | _, _ => .stuck
    | false => match fVb o v with
      | some v' => match nput e o.dst v' with
        | some e' => match u with
          | [] => .next (.drw all l (⟨o.dst, .undef, [], T, F, [], []⟩ :: acc) s e' σ)
          | p :: u => match fS (σ.upd (p :: u)), fL ((p :: u).map (·.1)) with
            | some σ', some ws => .next (.drw all l (⟨o.dst, .undef, ws.map fun i => (i, .dead), T, F, [], []⟩ :: acc) s e' σ')
            | _, _ => .stuck
        | none => .stuck
      | none => .stuck
def drMake [HasGlob] (C : Cx) (all l : List Oper) (acc : List Rec) (s : List Fr) (e : Env) (σ : St) (o : Oper) (T F : List Nat) : Out :=
  match fdead σ 0 with
  | some nid => match aop C nid e σ o with
    | some (v, p :: u) => match fV v, fS (σ.upd (p :: u)), fL ((p :: u).map (·.1)) with
      | some v', some σ', some ws => match ws.elem nid with
        | true => match nput e o.dst v' with
          | some e' => .next (.drw all l (⟨o.dst, .undef, ws.map fun i => (i, .dead), T, F, [], []⟩ :: acc) s e' σ')
          | none => .stuck
        | false => .stuck
      | _, _, _ => .stuck
    | _ => .stuck
  | none => .stuck
def drStep [HasGlob] (C : Cx) (all l : List Oper) (acc : List Rec) (s : List Fr) (e : Env) (σ : St) (o : Oper) : Out :=
  match fL (reads all o), fL (foot (opEnv e o) o) with
  | some T, some F => match makes C o with
    | true => drMake C all l acc s e σ o T F
    | false => match aop C 0 e σ o with
      | some r => drQuiet C all l acc s e σ o T F r
      | none => .stuck
  | _, _ => .stuck
def step [HasGlob] (C : Cx) : Pt → Out
  | .code c s e σ => match c with
    | .skip => .next (.val .normal s e σ)
    | .seq a b => .next (.code a (.seq b :: s) e σ)
    | .cond c x y => match ev e c with
      | some (.one (.d (.sc (.bool t)))) => match t with
        | true => .next (.code x s e σ)
        | false => .next (.code y s e σ)
      | _ => .stuck
    | .block id b => .next (.code b (.blk id :: s) e σ)
    | .ret => .next (.val .ret s e σ)
    | .exit id => .next (.val (.exit id) s e σ)
    | .region _ os false => .next (.ops os.toList os.toList s e σ)
    | .region _ os true => match backs os.toList 0 with
      | true => match fS (σ ++ deads (countMakes C os.toList)) with
        | some σ1 => .next (.drw os.toList os.toList [] s e σ1)
        | none => .stuck
      | false => .stuck
    | _ => .stuck
  | .val ex s e σ => match s with
    | [] => .done ex e σ
    | .seq c :: s => match ex with
      | .normal => .next (.code c s e σ)
      | .exit i => .next (.val (.exit i) s e σ)
      | .ret => .next (.val .ret s e σ)
    | .blk id :: s => match ex with
      | .normal => .next (.val .normal s e σ)
      | .ret => .next (.val .ret s e σ)
      | .exit i => match Nat.beq i id with
        | true => .next (.val .normal s e σ)
        | false => .next (.val (.exit i) s e σ)
  | .ops all l s e σ => match l with
    | [] => .next (.val .normal s e σ)
    | o :: l => match dstOk C.n o with
      | false => .stuck
      | true => match guardOk e all o with
        | some false => match nput e o.dst .undef with
          | some e' => .next (.ops all l s e' σ)
          | none => .stuck
        | some true => match isHardE C.T e o with
          | true => .stuck
          | false => opStep C all l s e σ o
        | none => .stuck
  | .drw all l acc s e σ => match l with
    | [] => match check all acc.reverse [] with
      | true => .next (.val .normal s e σ)
      | false => .stuck
    | o :: l => match dstOk C.n o with
      | false => .stuck
      | true => match guardOk e all o with
        | some false => match nput e o.dst .undef, fL (guardTmps all o) with
          | some e', some T => .next (.drw all l (⟨o.dst, .undef, [], T, [], [], []⟩ :: acc) s e' σ)
          | _, _ => .stuck
        | some true => match isHardE C.T e o with
          | true => .stuck
          | false => drStep C all l acc s e σ o
        | none => .stuck
def run [HasGlob] (C : Cx) : Nat → Pt → Out
  | 0, p => .next p
  | n + 1, p => match step C p with
    | .stuck => .next p
    | .next q => run C n q
    | .split b q r => .split b q r
    | .done ex e σ => .done ex e σ
/-- a step at least -/
def runs [HasGlob] (C : Cx) (n : Nat) (p : Pt) : Out :=
  match step C p with
  | .next q => run C n q
  | o => o
/-! soundness -/
def un [HasGlob] (C : Cx) : List Fr → (Ex → Env → St → Prop) → Ex → Env → St → Prop
  | [], Q => Q
  | .seq c :: s, Q => next C c (un C s Q)
  | .blk id :: s, Q => leave id (un C s Q)
def Pt.ok [HasGlob] (C : Cx) (Q : Ex → Env → St → Prop) : Pt → Prop
  | .code c s e σ => W C c e σ (un C s Q)
  | .ops all l s e σ => ∀ k, WL C all l k e σ fun e σ => un C s Q .normal e σ
  | .drw all l acc s e σ => ∀ k, DL C all l k e σ acc fun e σ => un C s Q .normal e σ
  | .val ex s e σ => un C s Q ex e σ
def Out.holds [HasGlob] (C : Cx) (Q : Ex → Env → St → Prop) : Out → Prop
  | .stuck => False
  | .next p => p.ok C Q
  | .split b p q => (b = true → p.ok C Q) ∧ (b = false → q.ok C Q)
  | .done ex e σ => Q ex e σ
section
variable {C : Cx} {Q : Ex → Env → St → Prop}
theorem opQuiet_sound [HasGlob] (hT : C.T.fits C.P) {all l : List Oper} {s : List Fr} {e : Env} {σ : St} {o : Oper} {r : V × Upd} (hg : guardOk e all o = some true) (hd : dstOk C.n o = true) (hm : makes C o = false) (hop : aop C 0 e σ o = some r)
    (h : (opQuiet C all l s e σ o r).holds C Q) : (Pt.ops all (o :: l) s e σ).ok C Q := by
  obtain ⟨v, u⟩ := r
  intro k
  unfold opQuiet at h
  simp only at h
  split at h
  · split at h
    · rename_i b
      split at h
      · rename_i e1 e2 he1 he2
        obtain ⟨h1, h2⟩ := h
        cases b with
        | true => exact WL.q' hT hg hd hm hop (fV_eq _) he1 (h1 rfl _)
        | false => exact WL.q' hT hg hd hm hop (fV_eq _) he2 (h2 rfl _)
      · exact h.elim
    · exact h.elim
  · split at h
    · rename_i v' hv
      rw [fVb_eq] at hv; injection hv with hv; subst hv
      split at h
      · rename_i e' he
        split at h
        · exact WL.q' hT hg hd hm hop (fV_eq _) he (h _)
        · split at h
          · rename_i σ' hσ
            exact WL.w' hT hg hd hm hop (fV_eq _) hσ he (h _)
          · exact h.elim
      · exact h.elim
    · exact h.elim
theorem opStep_sound [HasGlob] (hT : C.T.fits C.P) {all l : List Oper} {s : List Fr} {e : Env} {σ : St} {o : Oper} (hg : guardOk e all o = some true) (hd : dstOk C.n o = true) (h : (opStep C all l s e σ o).holds C Q) : (Pt.ops all (o :: l) s e σ).ok C Q := by
  unfold opStep at h
  split at h
  · rename_i hm
    rw [fNat_eq] at h
    simp only at h
    split at h
    · rename_i v u hop
      split at h
      · rename_i v' σ' hv hσ
        split at h
        · rename_i e' he
          intro k
          exact WL.m' hm hT hg hd hop hv hσ he (h _)
        · exact h.elim
      · exact h.elim
    · exact h.elim
  · rename_i hm
    split at h
    · rename_i r hop
      exact opQuiet_sound hT hg hd hm hop h
    · exact h.elim
theorem drQuiet_sound [HasGlob] (hT : C.T.fits C.P) {all l : List Oper} {acc : List Rec} {s : List Fr} {e : Env} {σ : St} {o : Oper} {T F : List Nat} {r : V × Upd} (hg : guardOk e all o = some true) (hd : dstOk C.n o = true) (hm : makes C o = false) (hop : aop C 0 e σ o = some r)
    (hT' : fL (reads all o) = some T) (hF' : fL (foot (opEnv e o) o) = some F) (h : (drQuiet C all l acc s e σ o T F r).holds C Q) : (Pt.drw all (o :: l) acc s e σ).ok C Q := by
  obtain ⟨v, u⟩ := r
  intro k
  unfold drQuiet at h
  simp only at h
  split at h
  · split at h
    · rename_i b
      split at h
      · rename_i e1 e2 he1 he2
        obtain ⟨h1, h2⟩ := h
        cases b with
        | true => exact DL.q' hT hg hd hm hop (fV_eq _) hT' hF' he1 (h1 rfl _)
        | false => exact DL.q' hT hg hd hm hop (fV_eq _) hT' hF' he2 (h2 rfl _)
      · exact h.elim
    · exact h.elim
  · split at h
    · rename_i v' hv
      rw [fVb_eq] at hv; injection hv with hv; subst hv
      split at h
      · rename_i e' he
        split at h
        · exact DL.q' hT hg hd hm hop (fV_eq _) hT' hF' he (h _)
        · split at h
          · rename_i σ' ws hσ hw
            exact DL.w' hT hg hd hm hop (fV_eq _) hσ hT' hF' hw he (h _)
          · exact h.elim
      · exact h.elim
    · exact h.elim
theorem drMake_sound [HasGlob] (hT : C.T.fits C.P) {all l : List Oper} {acc : List Rec} {s : List Fr} {e : Env} {σ : St} {o : Oper} {T F : List Nat} (hg : guardOk e all o = some true) (hd : dstOk C.n o = true) (hm : makes C o = true)
    (hT' : fL (reads all o) = some T) (hF' : fL (foot (opEnv e o) o) = some F) (h : (drMake C all l acc s e σ o T F).holds C Q) : (Pt.drw all (o :: l) acc s e σ).ok C Q := by
  unfold drMake at h
  split at h
  · rename_i nid hn
    split at h
    · rename_i v p u hop
      split at h
      · rename_i v' σ' ws hv hσ hw
        split at h
        · rename_i hin
          split at h
          · rename_i e' he
            intro k
            exact DL.m' hm hT hg hd hn hop hv hσ hT' hF' hw hin he (h _)
          · exact h.elim
        · exact h.elim
      · exact h.elim
    · exact h.elim
  · exact h.elim
theorem drStep_sound [HasGlob] (hT : C.T.fits C.P) {all l : List Oper} {acc : List Rec} {s : List Fr} {e : Env} {σ : St} {o : Oper} (hg : guardOk e all o = some true) (hd : dstOk C.n o = true) (h : (drStep C all l acc s e σ o).holds C Q) : (Pt.drw all (o :: l) acc s e σ).ok C Q := by
  unfold drStep at h
  split at h
  · rename_i T F hT' hF'
    split at h
    · rename_i hm
      exact drMake_sound hT hg hd hm hT' hF' h
    · rename_i hm
      split at h
      · rename_i r hop
        exact drQuiet_sound hT hg hd hm hop hT' hF' h
      · exact h.elim
  · exact h.elim
theorem step_sound [HasGlob] (hT : C.T.fits C.P) (hmx : C.P.follows .mixedOrders = true) {p : Pt} (h : (step C p).holds C Q) : p.ok C Q := by
  cases p with
  | code c s e σ =>
    cases c with
    | skip => exact W.skip h
    | seq a b => exact W.seq h
    | cond c x y =>
      simp only [step] at h
      split at h
      · rename_i t hc
        cases t with
        | true => exact W.cond hc h
        | false => exact W.cond hc h
      · exact h.elim
    | block id b => exact W.block h
    | ret => exact W.ret h
    | exit id => exact W.exit h
    | region id os draw =>
      cases draw with
      | false =>
        have h' := h 0
        have := W.reg (C := C) (id := id) (all := os.toList) (Q := un C s Q) h'
        show W C (.region id os false) e σ (un C s Q)
        simpa using this
      | true =>
        simp only [step] at h
        split at h
        · rename_i hbk
          split at h
          · rename_i σ1 hσ
            have h' := h 0
            have := W.draw (C := C) (id := id) (all := os.toList) (Q := un C s Q) hmx hbk hσ h'
            show W C (.region id os true) e σ (un C s Q)
            simpa using this
          · exact h.elim
        · exact h.elim
    | _ => exact h.elim
  | val ex s e σ =>
    cases s with
    | nil => exact h
    | cons f s =>
      cases f with
      | seq c => cases ex <;> exact h
      | blk id =>
        cases ex with
        | normal => exact h
        | ret => exact h
        | exit i =>
          show leave id (un C s Q) (.exit i) e σ
          simp only [step] at h
          simp only [leave]
          split at h
          · rename_i hb; rw [hb]; exact h
          · rename_i hb; rw [hb]; exact h
  | ops all l s e σ =>
    cases l with
    | nil => exact fun k => WL.fin h
    | cons o l =>
      simp only [step] at h
      split at h
      · exact h.elim
      · rename_i hd
        split at h
        · rename_i hg
          split at h
          · rename_i e' he
            exact fun k => WL.skip' hg hd he (h _)
          · exact h.elim
        · rename_i hg
          split at h
          · exact h.elim
          · exact opStep_sound hT hg hd h
        · exact h.elim
  | drw all l acc s e σ =>
    cases l with
    | nil =>
      simp only [step] at h
      split at h
      · rename_i hck; exact fun k => DL.fin hck h
      · exact h.elim
    | cons o l =>
      simp only [step] at h
      split at h
      · exact h.elim
      · rename_i hd
        split at h
        · rename_i hg
          split at h
          · rename_i e' T he hT'
            intro k
            rw [nput_eq] at he; injection he with he; subst he
            exact DL.skip hg hd hT' (h _)
          · exact h.elim
        · rename_i hg
          split at h
          · exact h.elim
          · exact drStep_sound hT hg hd h
        · exact h.elim
theorem run_sound [HasGlob] (hT : C.T.fits C.P) (hmx : C.P.follows .mixedOrders = true) : ∀ (n : Nat) {p : Pt}, (run C n p).holds C Q → p.ok C Q
  | 0, p, h => h
  | n + 1, p, h => by
    unfold run at h
    split at h
    · exact h
    · rename_i q hq
      exact step_sound hT hmx (by rw [hq]; exact run_sound hT hmx n h)
    · rename_i b q r hq
      exact step_sound hT hmx (by rw [hq]; exact h)
    · rename_i ex e σ hq
      exact step_sound hT hmx (by rw [hq]; exact h)
theorem runs_sound [HasGlob] (hT : C.T.fits C.P) (hmx : C.P.follows .mixedOrders = true) (n : Nat) {p : Pt} (h : (runs C n p).holds C Q) : p.ok C Q := by
  unfold runs at h
  split at h
  · rename_i q hq
    exact step_sound hT hmx (by rw [hq]; exact run_sound hT hmx n h)
  · exact step_sound hT hmx h
/-! the way in, and on -/
def fE : Env → Option Env
  | [] => some []
  | x :: r => match fE r with
    | some r' => some (x :: r')
    | none => none
theorem fE_eq : ∀ e : Env, fE e = some e
  | [] => rfl
  | x :: r => by simp [fE, fE_eq r]
theorem gI [HasGlob] {c : Code} {e e' : Env} {σ : St} (h : W C c e' σ (un C [] Q)) (he : fE e = some e' := by rfl) : W C c e σ Q := by
  rw [fE_eq] at he; injection he with he; subst he; exact h
theorem gC [HasGlob] {c : Code} {s : List Fr} {e : Env} {σ : St} (hT : C.T.fits C.P) (hmx : C.P.follows .mixedOrders = true) (h : (runs C 1000 (.code c s e σ)).holds C Q) : W C c e σ (un C s Q) := runs_sound (p := .code c s e σ) hT hmx 1000 h
theorem gC0 [HasGlob] {c : Code} {e : Env} {σ : St} (hT : C.T.fits C.P) (hmx : C.P.follows .mixedOrders = true) (h : (runs C 1000 (.code c [] e σ)).holds C Q) : W C c e σ Q := runs_sound (p := .code c [] e σ) hT hmx 1000 h
theorem gO [HasGlob] {all l : List Oper} {s : List Fr} {e : Env} {σ : St} (hT : C.T.fits C.P) (hmx : C.P.follows .mixedOrders = true) (h : (runs C 1000 (.ops all l s e σ)).holds C Q) : ∀ k, WL C all l k e σ fun e σ => un C s Q .normal e σ := runs_sound (p := .ops all l s e σ) hT hmx 1000 h
theorem gR [HasGlob] {all l : List Oper} {acc : List Rec} {s : List Fr} {e : Env} {σ : St} (hT : C.T.fits C.P) (hmx : C.P.follows .mixedOrders = true) (h : (runs C 1000 (.drw all l acc s e σ)).holds C Q) : ∀ k, DL C all l k e σ acc fun e σ => un C s Q .normal e σ := runs_sound (p := .drw all l acc s e σ) hT hmx 1000 h
theorem oW [HasGlob] {all l : List Oper} {e : Env} {σ : St} {R : Env → St → Prop} (h : ∀ k, WL C all l k e σ R) (k : Nat) : WL C all l k e σ R := h k
theorem oD [HasGlob] {all l : List Oper} {acc : List Rec} {e : Env} {σ : St} {R : Env → St → Prop} (h : ∀ k, DL C all l k e σ acc R) (k : Nat) : DL C all l k e σ acc R := h k
end
end Go.Am
/- The abstract machine: more rules: maps, slices of growing arrays, appending where the order is drawn, a nil slice that begins to be an array, a slice held against nil. -/
namespace Go.Am
/-- what a look-up gives -/
def found (T : Tab) (et : TypeId) (x : FV) : Option (Nat × FV) → Prop
  | some (_, v) => v = x
  | none => ∃ z, T.zero et = some z ∧ ofValueF z = some x
def mapSet (es : List (Value × FV)) (k : Value) (f : FV) : Option (Nat × FV) → List (Value × FV)
  | some (i, _) => es.set i (k, f)
  | none => es ++ [(k, f)]
def mapDel (es : List (Value × FV)) : Option (Nat × FV) → List (Value × FV)
  | some (i, _) => es.eraseIdx i
  | none => es
section
variable {C : Cx} {e : Env} {σ : St} {o : Oper} {nid : Nat}
theorem aop_lookup [HasGlob] {t kt et : TypeId} {m k : Operand} {ok : Bool} {id : Nat} {es : List (Value × FV)} {kv : Value} {r : Option (Nat × FV)} {x : FV} (ho : o.op = .lookup t m k ok) (ht : C.T.und t = some (.map kt et)) (hm : ev (opEnv e o) m = some (.one (.map id))) (hk : ev (opEnv e o) k = some (.one (.d (.sc kv))))
    (hl : inFoot (foot (opEnv e o) o) σ id = some (.map es)) (hf : keyFits C.T kt kv = true) (hr : findKey kv es 0 = some r) (hx : found C.T et x r) :
    aop C nid e σ o = some (bif ok then .tup [x, .one (.d (.sc (.bool r.isSome)))] else x.v, []) := by
  unfold aop core
  rw [ho]
  simp only [hm, hk, lookupOf, entriesOf, ht, hl, hf, cond_true, hr]
  cases r with
  | some p => obtain ⟨i, v⟩ := p; simp only [found] at hx; subst hx; rfl
  | none => obtain ⟨z, h1, h2⟩ := hx; simp only [h1, h2]; rfl
theorem aop_update [HasGlob] {t kt et : TypeId} {m k x : Operand} {id : Nat} {es : List (Value × FV)} {kv : Value} {r : Option (Nat × FV)} {xv : V} {f : FV} (ho : o.op = .mapUpdate t m k x) (ht : C.T.und t = some (.map kt et)) (hm : ev (opEnv e o) m = some (.one (.map id))) (hk : ev (opEnv e o) k = some (.one (.d (.sc kv)))) (hx : ev (opEnv e o) x = some xv) (hxf : xv.fv = some f)
    (hl : inFoot (foot (opEnv e o) o) σ id = some (.map es)) (hf : keyFits C.T kt kv = true) (hr : findKey kv es 0 = some r) :
    aop C nid e σ o = some (.undef, [(id, .map (mapSet es kv f r))]) := by
  unfold aop core
  rw [ho]
  simp only [hm, hk, hx, updateOf, entriesOf, ht, hl, hf, cond_true, hr, hxf]
  cases r with
  | some p => obtain ⟨i, v⟩ := p; rfl
  | none => rfl
theorem aop_delete [HasGlob] {t kt et t' : TypeId} {m k : Operand} {id : Nat} {es : List (Value × FV)} {kv : Value} {r : Option (Nat × FV)} (ho : o.op = .call { callee := .builtin .delete, args := #[m, k], argTypes := #[t, t'] }) (ht : C.T.und t = some (.map kt et)) (hm : ev (opEnv e o) m = some (.one (.map id))) (hk : ev (opEnv e o) k = some (.one (.d (.sc kv))))
    (hl : inFoot (foot (opEnv e o) o) σ id = some (.map es)) (hf : keyFits C.T kt kv = true) (hr : findKey kv es 0 = some r) :
    aop C nid e σ o = some (.tup [], [(id, .map (mapDel es r))]) := by
  unfold aop core
  rw [ho]
  simp only [hm, hk, deleteOf, entriesOf, ht, hl, hf, cond_true, hr]
  cases r with
  | some p => obtain ⟨i, v⟩ := p; rfl
  | none => rfl
theorem aop_cuta [HasGlob] {t : TypeId} {x : Operand} {lo hi : Option Operand} {et : TypeId} {n id ep len : Nat} {rows : List (List D)} {l h : Option Int} (ho : o.op = .slice t x lo hi none) (ht : C.T.elem t = some et) (hsz : C.T.size et = some n)
    (hx : ev (opEnv e o) x = some (.one (.arr id ep len))) (hlk : inFoot (foot (opEnv e o) o) σ id = some (.arr ep false n rows)) (hn : len = rows.length) (hm : arMode C.ar o.dst = none) (hlo : bound (ev (opEnv e o)) lo = some l) (hhi : bound (ev (opEnv e o)) hi = some h)
    (h1 : 0 ≤ l.getD 0) (h2 : l.getD 0 ≤ h.getD rows.length) (h3 : h.getD rows.length ≤ rows.length) :
    aop C nid e σ o = some (.one (.d (.list ((rows.take (h.getD rows.length).toNat).drop (l.getD 0).toNat))), []) := by
  subst hn
  unfold aop core
  rw [ho]
  simp only [hx, hlo, hhi, sliceOf, hlk, ht, hsz, decide_eq_true h1, decide_eq_true h2, decide_eq_true h3, Nat.beq_refl, Bool.and_self, cond_true, hm, cond_false]
end
section
variable {C : Cx} {all l : List Oper} {k : Nat} {e : Env} {σ : St} {o : Oper} {acc : List Rec} {Q : Env → St → Prop}
/-- a map is asked; whether it is there: as the context says -/
theorem lLk [HasGlob] (hT : C.T.fits C.P) {t kt et : TypeId} {m y : Operand} {ok : Bool} {id : Nat} {es : List (Value × FV)} {kv : Value} {r : Option (Nat × FV)} {x : FV} {v' : V} {e' : Env} (h : WL C all l (k + 1) e' σ Q) (ho : o.op = .lookup t m y ok := by rfl) (hg : guardOk e all o = some true := by rfl) (hd : dstOk C.n o = true := by rfl)
    (ht : C.T.und t = some (.map kt et) := by rfl) (hm : ev (opEnv e o) m = some (.one (.map id)) := by rfl) (hk : ev (opEnv e o) y = some (.one (.d (.sc kv))) := by rfl) (hl : inFoot (foot (opEnv e o) o) σ id = some (.map es) := by rfl) (hf : keyFits C.T kt kv = true := by rfl) (hr : findKey kv es 0 = some r := by first | assumption | rfl)
    (hx : found C.T et x r := by first | exact rfl | exact ⟨_, rfl, rfl⟩) (hv : fV (bif ok then .tup [x, .one (.d (.sc (.bool r.isSome)))] else x.v) = some v' := by rfl) (he : nput e o.dst v' = some e' := by rfl) : WL C all (o :: l) k e σ Q := by
  have hmk : makes C o = false := by unfold makes; rw [ho]
  exact WL.q' hT hg hd hmk (aop_lookup ho ht hm hk hl hf hr hx) hv he h
/-- a map is asked; whether it is there: as the context says -/
theorem dLk [HasGlob] (hT : C.T.fits C.P) {t kt et : TypeId} {m y : Operand} {ok : Bool} {id : Nat} {es : List (Value × FV)} {kv : Value} {r : Option (Nat × FV)} {x : FV} {v' : V} {e' : Env} {T F : List Nat} (h : DL C all l (k + 1) e' σ (⟨o.dst, .undef, [], T, F, [], []⟩ :: acc) Q) (ho : o.op = .lookup t m y ok := by rfl) (hg : guardOk e all o = some true := by rfl) (hd : dstOk C.n o = true := by rfl)
    (ht : C.T.und t = some (.map kt et) := by rfl) (hm : ev (opEnv e o) m = some (.one (.map id)) := by rfl) (hk : ev (opEnv e o) y = some (.one (.d (.sc kv))) := by rfl) (hl : inFoot (foot (opEnv e o) o) σ id = some (.map es) := by rfl) (hf : keyFits C.T kt kv = true := by rfl) (hr : findKey kv es 0 = some r := by first | assumption | rfl)
    (hx : found C.T et x r := by first | exact rfl | exact ⟨_, rfl, rfl⟩) (hv : fV (bif ok then .tup [x, .one (.d (.sc (.bool r.isSome)))] else x.v) = some v' := by rfl) (hT' : fL (reads all o) = some T := by rfl) (hF' : fL (foot (opEnv e o) o) = some F := by rfl) (he : nput e o.dst v' = some e' := by rfl) : DL C all (o :: l) k e σ acc Q := by
  have hmk : makes C o = false := by unfold makes; rw [ho]
  exact DL.q' hT hg hd hmk (aop_lookup ho ht hm hk hl hf hr hx) hv hT' hF' he h
/-- a map is written -/
theorem lUp [HasGlob] (hT : C.T.fits C.P) {t kt et : TypeId} {m y z : Operand} {id : Nat} {es : List (Value × FV)} {kv : Value} {r : Option (Nat × FV)} {xv : V} {f : FV} {σ' : St} {e' : Env} (h : WL C all l (k + 1) e' σ' Q) (ho : o.op = .mapUpdate t m y z := by rfl) (hg : guardOk e all o = some true := by rfl) (hd : dstOk C.n o = true := by rfl)
    (ht : C.T.und t = some (.map kt et) := by rfl) (hm : ev (opEnv e o) m = some (.one (.map id)) := by rfl) (hk : ev (opEnv e o) y = some (.one (.d (.sc kv))) := by rfl) (hx : ev (opEnv e o) z = some xv := by rfl) (hxf : xv.fv = some f := by rfl) (hl : inFoot (foot (opEnv e o) o) σ id = some (.map es) := by rfl) (hf : keyFits C.T kt kv = true := by rfl) (hr : findKey kv es 0 = some r := by first | assumption | rfl)
    (hσ : fS (σ.upd [(id, .map (mapSet es kv f r))]) = some σ' := by rfl) (he : nput e o.dst .undef = some e' := by rfl) : WL C all (o :: l) k e σ Q := by
  have hmk : makes C o = false := by unfold makes; rw [ho]
  exact WL.w' hT hg hd hmk (aop_update ho ht hm hk hx hxf hl hf hr) rfl hσ he h
theorem dUp [HasGlob] (hT : C.T.fits C.P) {t kt et : TypeId} {m y z : Operand} {id : Nat} {es : List (Value × FV)} {kv : Value} {r : Option (Nat × FV)} {xv : V} {f : FV} {σ' : St} {e' : Env} {T F ws : List Nat} (h : DL C all l (k + 1) e' σ' (⟨o.dst, .undef, ws.map fun i => (i, .dead), T, F, [], []⟩ :: acc) Q) (ho : o.op = .mapUpdate t m y z := by rfl) (hg : guardOk e all o = some true := by rfl) (hd : dstOk C.n o = true := by rfl)
    (ht : C.T.und t = some (.map kt et) := by rfl) (hm : ev (opEnv e o) m = some (.one (.map id)) := by rfl) (hk : ev (opEnv e o) y = some (.one (.d (.sc kv))) := by rfl) (hx : ev (opEnv e o) z = some xv := by rfl) (hxf : xv.fv = some f := by rfl) (hl : inFoot (foot (opEnv e o) o) σ id = some (.map es) := by rfl) (hf : keyFits C.T kt kv = true := by rfl) (hr : findKey kv es 0 = some r := by first | assumption | rfl)
    (hσ : fS (σ.upd [(id, .map (mapSet es kv f r))]) = some σ' := by rfl) (hT' : fL (reads all o) = some T := by rfl) (hF' : fL (foot (opEnv e o) o) = some F := by rfl) (hw : fL [id] = some ws := by rfl) (he : nput e o.dst .undef = some e' := by rfl) : DL C all (o :: l) k e σ acc Q := by
  have hmk : makes C o = false := by unfold makes; rw [ho]
  exact DL.w' hT hg hd hmk (aop_update ho ht hm hk hx hxf hl hf hr) rfl hσ hT' hF' hw he h
theorem lDel [HasGlob] (hT : C.T.fits C.P) {t kt et t' : TypeId} {m y : Operand} {id : Nat} {es : List (Value × FV)} {kv : Value} {r : Option (Nat × FV)} {σ' : St} {e' : Env} (h : WL C all l (k + 1) e' σ' Q) (ho : o.op = .call { callee := .builtin .delete, args := #[m, y], argTypes := #[t, t'] } := by rfl) (hg : guardOk e all o = some true := by rfl) (hd : dstOk C.n o = true := by rfl)
    (ht : C.T.und t = some (.map kt et) := by rfl) (hm : ev (opEnv e o) m = some (.one (.map id)) := by rfl) (hk : ev (opEnv e o) y = some (.one (.d (.sc kv))) := by rfl) (hl : inFoot (foot (opEnv e o) o) σ id = some (.map es) := by rfl) (hf : keyFits C.T kt kv = true := by rfl) (hr : findKey kv es 0 = some r := by first | assumption | rfl)
    (hσ : fS (σ.upd [(id, .map (mapDel es r))]) = some σ' := by rfl) (he : nput e o.dst (.tup []) = some e' := by rfl) : WL C all (o :: l) k e σ Q := by
  have hmk : makes C o = false := by unfold makes; rw [ho]
  exact WL.w' hT hg hd hmk (aop_delete ho ht hm hk hl hf hr) rfl hσ he h
/-- x[lo:hi] of a growing array, as data -/
theorem lKa [HasGlob] (hT : C.T.fits C.P) {t : TypeId} {x : Operand} {lo hi : Option Operand} {et : TypeId} {n id ep len : Nat} {rows rows' : List (List D)} {a b : Option Int} {e' : Env} (h : WL C all l (k + 1) e' σ Q) (ho : o.op = .slice t x lo hi none := by rfl) (hg : guardOk e all o = some true := by rfl) (hd : dstOk C.n o = true := by rfl)
    (ht : C.T.elem t = some et := by rfl) (hsz : C.T.size et = some n := by rfl) (hx : ev (opEnv e o) x = some (.one (.arr id ep len)) := by rfl) (hlk : inFoot (foot (opEnv e o) o) σ id = some (.arr ep false n rows) := by rfl) (hn : len = rows.length := by rfl) (hm : arMode C.ar o.dst = none := by rfl) (hlo : bound (ev (opEnv e o)) lo = some a := by rfl) (hhi : bound (ev (opEnv e o)) hi = some b := by rfl)
    (h1 : 0 ≤ a.getD 0 := by simp only [List.length_map, List.length_append, List.length_cons, List.length_nil, List.length_replicate, Option.getD]; omega) (h2 : a.getD 0 ≤ b.getD rows.length := by simp only [List.length_map, List.length_append, List.length_cons, List.length_nil, List.length_replicate, Option.getD]; omega) (h3 : b.getD rows.length ≤ rows.length := by simp only [List.length_map, List.length_append, List.length_cons, List.length_nil, List.length_replicate, Option.getD]; omega)
    (hr : (rows.take (b.getD rows.length).toNat).drop (a.getD 0).toNat = rows' := by rfl) (he : nput e o.dst (.one (.d (.list rows'))) = some e' := by rfl) : WL C all (o :: l) k e σ Q := by
  subst hr
  have hmk : makes C o = false := by unfold makes; rw [ho]
  exact WL.q' hT hg hd hmk (aop_cuta ho ht hsz hx hlk hn hm hlo hhi h1 h2 h3) (fV_eq _) he h
/-- x[lo:hi] of a growing array, as data -/
theorem dKa [HasGlob] (hT : C.T.fits C.P) {t : TypeId} {x : Operand} {lo hi : Option Operand} {et : TypeId} {n id ep len : Nat} {rows rows' : List (List D)} {a b : Option Int} {e' : Env} {T F : List Nat} (h : DL C all l (k + 1) e' σ (⟨o.dst, .undef, [], T, F, [], []⟩ :: acc) Q) (ho : o.op = .slice t x lo hi none := by rfl) (hg : guardOk e all o = some true := by rfl) (hd : dstOk C.n o = true := by rfl)
    (ht : C.T.elem t = some et := by rfl) (hsz : C.T.size et = some n := by rfl) (hx : ev (opEnv e o) x = some (.one (.arr id ep len)) := by rfl) (hlk : inFoot (foot (opEnv e o) o) σ id = some (.arr ep false n rows) := by rfl) (hn : len = rows.length := by rfl) (hm : arMode C.ar o.dst = none := by rfl) (hlo : bound (ev (opEnv e o)) lo = some a := by rfl) (hhi : bound (ev (opEnv e o)) hi = some b := by rfl)
    (h1 : 0 ≤ a.getD 0 := by simp only [List.length_map, List.length_append, List.length_cons, List.length_nil, List.length_replicate, Option.getD]; omega) (h2 : a.getD 0 ≤ b.getD rows.length := by simp only [List.length_map, List.length_append, List.length_cons, List.length_nil, List.length_replicate, Option.getD]; omega) (h3 : b.getD rows.length ≤ rows.length := by simp only [List.length_map, List.length_append, List.length_cons, List.length_nil, List.length_replicate, Option.getD]; omega)
    (hr : (rows.take (b.getD rows.length).toNat).drop (a.getD 0).toNat = rows' := by rfl) (hT' : fL (reads all o) = some T := by rfl) (hF' : fL (foot (opEnv e o) o) = some F := by rfl) (he : nput e o.dst (.one (.d (.list rows'))) = some e' := by rfl) : DL C all (o :: l) k e σ acc Q := by
  subst hr
  have hmk : makes C o = false := by unfold makes; rw [ho]
  exact DL.q' hT hg hd hmk (aop_cuta ho ht hsz hx hlk hn hm hlo hhi h1 h2 h3) (fV_eq _) hT' hF' he h
/-- onto a growing array, where the order is drawn -/
theorem dA [HasGlob] (hT : C.T.fits C.P) {s x : Operand} {t t' et : TypeId} {n w id ep len : Nat} {m : Bool} {z : List Cell} {rows xs : List (List D)} {xv : V} {σ' : St} {e' : Env} {T F ws : List Nat} (h : DL C all l (k + 1) e' σ' (⟨o.dst, .undef, ws.map fun i => (i, .dead), T, F, [], []⟩ :: acc) Q) (ho : o.op = .call { callee := .builtin .append, args := #[s, x], argTypes := #[t, t'] } := by rfl) (hg : guardOk e all o = some true := by rfl) (hd : dstOk C.n o = true := by rfl) (hm : makes C o = false := by rfl)
    (hs : ev (opEnv e o) s = some (.one (.arr id ep len)) := by rfl) (hx : ev (opEnv e o) x = some xv := by rfl) (ht' : C.T.und t' = some (.slice et) := by rfl) (ht : C.T.elem t = some et := by rfl) (hsz : C.T.size et = some n := by rfl) (hby : C.T.bytes et = some (w + 1) := by rfl) (hz : zeroCells C.T et = some z := by rfl) (hzn : z.length = n := by rfl)
    (hl : inFoot (foot (opEnv e o) o) σ id = some (.arr ep m n rows) := by rfl) (hn : len = rows.length := by rfl) (hxs : rowsIn (inFoot (foot (opEnv e o) o) σ) xv = some xs := by first | rfl | exact rowsIn_arr rfl rfl) (hok : rowsOk n xs = true := by first | rfl | exact rowsOk_map_of (fun _ => rfl))
    (hsm : (rows.length + xs.length) * (w + 1) ≤ most := by simp only [most, List.length_map, List.length_append, List.length_cons, List.length_nil, List.length_replicate]; omega) (hσ : fS (σ.upd [(id, .arr ep m n (rows ++ xs))]) = some σ' := by rfl) (hT' : fL (reads all o) = some T := by rfl) (hF' : fL (foot (opEnv e o) o) = some F := by rfl) (hw : fL [id] = some ws := by rfl) (he : nput e o.dst (.one (.arr id ep (rows ++ xs).length)) = some e' := by rfl) : DL C all (o :: l) k e σ acc Q := by
  rw [List.length_append] at he
  exact DL.w' hT hg hd hm (aop_app ho hs hx ht' ht hsz hby hz hzn hl hn hxs hok hsm) (fV_eq _) hσ hT' hF' hw he h
theorem dA0 [HasGlob] (hT : C.T.fits C.P) {s x : Operand} {t t' et : TypeId} {n w : Nat} {z : List Cell} {xs : List (List D)} {xv : V} {e' : Env} {T F : List Nat} (h : DL C all l (k + 1) e' σ (⟨o.dst, .undef, [], T, F, [], []⟩ :: acc) Q) (ho : o.op = .call { callee := .builtin .append, args := #[s, x], argTypes := #[t, t'] } := by rfl) (hg : guardOk e all o = some true := by rfl) (hd : dstOk C.n o = true := by rfl) (hm : arMode C.ar o.dst = none := by rfl)
    (hs : ev (opEnv e o) s = some (.one (.d (.sc (.slice none 0 0)))) := by rfl) (hx : ev (opEnv e o) x = some xv := by rfl) (ht' : C.T.und t' = some (.slice et) := by rfl) (ht : C.T.elem t = some et := by rfl) (hsz : C.T.size et = some n := by rfl) (hby : C.T.bytes et = some (w + 1) := by rfl) (hz : zeroCells C.T et = some z := by rfl) (hzn : z.length = n := by rfl)
    (hxs : rowsIn (inFoot (foot (opEnv e o) o) σ) xv = some xs := by first | rfl | exact rowsIn_arr rfl rfl) (hok : rowsOk n xs = true := by first | rfl | exact rowsOk_map_of (fun _ => rfl))
    (hsm : xs.length * (w + 1) ≤ most := by simp only [most, List.length_map, List.length_append, List.length_cons, List.length_nil, List.length_replicate]; omega) (hT' : fL (reads all o) = some T := by rfl) (hF' : fL (foot (opEnv e o) o) = some F := by rfl) (he : nput e o.dst (.one (.d (.list xs))) = some e' := by rfl) : DL C all (o :: l) k e σ acc Q := by
  have hmk : makes C o = false := by unfold makes; rw [ho]; simp only [hm]; rfl
  exact DL.q' hT hg hd hmk (aop_app0 ho hs hx ht' ht hsz hby hz hzn hxs hok hsm hm) (fV_eq _) hT' hF' he h
/-- onto nil, where the order is drawn: an array of its own, in a free place -/
theorem dA1 [HasGlob] (hT : C.T.fits C.P) {s x : Operand} {t t' et : TypeId} {n w nid : Nat} {m : Bool} {z : List Cell} {xs : List (List D)} {xv : V} {σ' : St} {e' : Env} {T F : List Nat} (h : DL C all l (k + 1) e' σ' (⟨o.dst, .undef, [(nid, .dead)], T, F, [], []⟩ :: acc) Q) (ho : o.op = .call { callee := .builtin .append, args := #[s, x], argTypes := #[t, t'] } := by rfl) (hg : guardOk e all o = some true := by rfl) (hd : dstOk C.n o = true := by rfl) (hm : arMode C.ar o.dst = some m := by rfl)
    (hs : ev (opEnv e o) s = some (.one (.d (.sc (.slice none 0 0)))) := by rfl) (hx : ev (opEnv e o) x = some xv := by rfl) (ht' : C.T.und t' = some (.slice et) := by rfl) (ht : C.T.elem t = some et := by rfl) (hsz : C.T.size et = some n := by rfl) (hby : C.T.bytes et = some (w + 1) := by rfl) (hz : zeroCells C.T et = some z := by rfl) (hzn : z.length = n := by rfl)
    (hxs : rowsIn (inFoot (foot (opEnv e o) o) σ) xv = some xs := by first | rfl | exact rowsIn_arr rfl rfl) (hok : rowsOk n xs = true := by first | rfl | exact rowsOk_map_of (fun _ => rfl))
    (hsm : xs.length * (w + 1) ≤ most := by simp only [most, List.length_map, List.length_append, List.length_cons, List.length_nil, List.length_replicate]; omega) (hn : fdead σ 0 = some nid := by rfl) (hσ : fS (St.upd σ [(nid, .arr 0 m n xs)]) = some σ' := by rfl)
    (hT' : fL (reads all o) = some T := by rfl) (hF' : fL (foot (opEnv e o) o) = some F := by rfl) (he : nput e o.dst (.one (.arr nid 0 xs.length)) = some e' := by rfl) : DL C all (o :: l) k e σ acc Q := by
  have hmk : makes C o = true := by unfold makes; rw [ho]; simp only [hm]; rfl
  exact DL.m' hmk hT hg hd hn (aop_app0m ho hs hx ht' ht hsz hby hz hzn hxs hok hsm hm) (fV_eq _) hσ hT' hF' (ws := [nid]) (by rw [fL_eq]; rfl) (by simp) he h
end
end Go.Am
/- The abstract machine: a nil slice in a variable begins to be an array of its own (nothing happens in memory); a slice held against nil. -/
namespace Go.Am
def adoptSt (σ : St) (id k : Nat) (m : Bool) (n : Nat) : St :=
  match σ[id]? with
  | some (.var cells) => σ.set id (.var (cells.set k (.arr σ.length 0 0))) ++ [.arr 0 m n []]
  | _ => σ
def isNilAt (σ : St) (id k : Nat) : Bool :=
  match σ[id]? with
  | some (.var cells) => match cells[k]? with
    | some (.d (.sc (.slice none 0 0))) => true
    | _ => false
  | _ => false
theorem isNilAt_spec {σ : St} {id k : Nat} (h : isNilAt σ id k = true) : ∃ cells, σ[id]? = some (.var cells) ∧ cells[k]? = some (.d (.sc nilSlice)) := by
  unfold isNilAt at h
  split at h
  · rename_i cells h1
    refine ⟨cells, h1, ?_⟩
    split at h
    · rename_i h2; exact h2
    · simp at h
  · simp at h
section
variable {C : Cx} {e : Env} {σ : St} {Q : Ex → Env → St → Prop}
theorem adopt_ghost [HasGlob] {N : Nat} {κ : K} {w : World} {a : Act} {id k n : Nat} {m : Bool} (hs : SR N κ w e σ a) (hn : isNilAt σ id k = true) : ∃ κ', Evo κ w σ κ' w (adoptSt σ id k m n) ∧ SR N κ' w e (adoptSt σ id k m n) a := by
  obtain ⟨cells, h1, h2⟩ := isNilAt_spec hn
  have hid : id < σ.length := (List.getElem?_eq_some_iff.1 h1).1
  have hk : k < cells.length := (List.getElem?_eq_some_iff.1 h2).1
  have hσ : adoptSt σ id k m n = σ.set id (.var (cells.set k (.arr σ.length 0 0))) ++ [.arr 0 m n []] := by simp only [adoptSt, h1]
  rw [hσ]
  let κ' : K := { κ with sl := fun i ep l => if i = σ.length then (if ep = 0 ∧ l = 0 then some nilSlice else none) else κ.sl i ep l }
  have hst : Stays κ w κ' w (alive σ) := ⟨fun _ _ h => h, fun _ _ _ => rfl, fun _ _ => rfl, fun i ep l v hi hv => by
    show (if i = σ.length then _ else κ.sl i ep l) = some v
    rw [if_neg (by have := alive_lt hi; omega)]; exact hv⟩
  have hget : ∀ i o, (σ.set id (.var (cells.set k (.arr σ.length 0 0))) ++ [Ob.arr 0 m n []])[i]? = some o → (i = id ∧ o = .var (cells.set k (.arr σ.length 0 0))) ∨ (i = σ.length ∧ o = .arr 0 m n []) ∨ (i ≠ id ∧ i < σ.length ∧ σ[i]? = some o) := by
    intro i o h
    rw [List.getElem?_append] at h
    split at h
    · rename_i hlt
      simp only [List.length_set] at hlt
      rw [List.getElem?_set] at h
      split at h
      · rename_i he
        subst he
        simp only [hid, if_true, Option.some.injEq] at h
        exact .inl ⟨rfl, h.symm⟩
      · rename_i he; exact .inr (.inr ⟨fun h => he h.symm, hlt, h⟩)
    · rename_i hlt
      simp only [List.length_set] at hlt h
      have h0 : i - σ.length = 0 := by
        have := (List.getElem?_eq_some_iff.1 h).1
        simp at this; omega
      rw [h0] at h
      simp only [List.getElem?_cons_zero, Option.some.injEq] at h
      exact .inr (.inl ⟨by omega, h.symm⟩)
  have hlive : ∀ i, alive σ i = true → alive (σ.set id (.var (cells.set k (.arr σ.length 0 0))) ++ [Ob.arr 0 m n []]) i = true := by
    intro i hi
    obtain ⟨o, g1, g2⟩ := alive_iff.1 hi
    have hlt := alive_lt hi
    by_cases he : i = id
    · subst he
      exact alive_iff.2 ⟨.var (cells.set k (.arr σ.length 0 0)), by rw [List.getElem?_append_left (by simpa using hlt), List.getElem?_set_self hlt], by simp⟩
    · exact alive_iff.2 ⟨o, by rw [List.getElem?_append_left (by simpa using hlt), List.getElem?_set_ne (fun h => he h.symm)]; exact g1, g2⟩
  have hnew : alive (σ.set id (.var (cells.set k (.arr σ.length 0 0))) ++ [Ob.arr 0 m n []]) σ.length = true :=
    alive_iff.2 ⟨.arr 0 m n [], by rw [List.getElem?_append_right (by simp)]; simp, by simp⟩
  have hblk : ∀ i o, i < σ.length → blockOf κ' i o = blockOf κ i o := by
    intro i o hi
    have hne : ¬ i = σ.length := by omega
    cases o <;> simp only [blockOf, κ', if_neg hne]
  have hown : ∀ b, own κ' (σ.set id (.var (cells.set k (.arr σ.length 0 0))) ++ [Ob.arr 0 m n []]) b → own κ σ b := by
    rintro b ⟨i, o, g1, g2⟩
    rcases hget i o g1 with ⟨rfl, rfl⟩ | ⟨rfl, rfl⟩ | ⟨g3, g4, g5⟩
    · exact ⟨i, .var cells, h1, g2⟩
    · simp [blockOf, κ', nilSlice] at g2
    · exact ⟨i, o, g5, by rw [← hblk i o g4]; exact g2⟩
  have hR : RS κ' w (σ.set id (.var (cells.set k (.arr σ.length 0 0))) ++ [Ob.arr 0 m n []]) := by
    refine ⟨fun i o ho => ?_, fun i j o o' b g1 g2 hb hb' => ?_, fun i o ho => ?_, hs.rs.inside, hs.rs.glob⟩
    · rcases hget i o ho with ⟨rfl, rfl⟩ | ⟨rfl, rfl⟩ | ⟨g3, g4, g5⟩
      · obtain ⟨b, c, T, a1, a2, a3, a4⟩ := hs.rs.obj _ _ h1
        refine ⟨b, c, T, a1, a2, ⟨by rw [List.length_set]; exact a3.1, fun j x v hj hv => ?_⟩, a4⟩
        rw [List.getElem?_set] at hj
        split at hj
        · rename_i he
          subst he
          simp only [hk, if_true, Option.some.injEq] at hj
          subst hj
          have hc := a3.2 k _ v h2 hv
          have hvn : v = nilSlice := by cases hc with | d _ _ hd => cases hd with | sc _ _ => rfl
          subst hvn
          exact .arr _ _ _ none 0 (by simp [κ', nilSlice])
        · exact (a3.2 j x v hj hv).stays hst (under_of_mem (hs.rs.inner _ _ h1) j x hj)
      · refine ⟨⟨fun r hr => by simp at hr, fun ep' l v hv => ?_⟩, .inl ⟨by simp [κ'], rfl⟩⟩
        simp only [κ', if_true] at hv
        split at hv
        · rename_i hh; exact .inr ⟨hh.1, by simp [hh.2]⟩
        · simp at hv
      · refine RO.frame hst (hs.rs.inner i o g5) ?_ (hs.rs.obj i o g5) rfl (fun ep l => by simp only [κ']; rw [if_neg (by omega)]) (fun _ _ => rfl) (fun _ _ _ => Iff.rfl)
        cases o with
        | dead => exact .inl rfl
        | _ => exact .inr (alive_iff.2 ⟨_, g5, by simp⟩)
    · rcases hget i o g1 with ⟨rfl, rfl⟩ | ⟨rfl, rfl⟩ | ⟨g3, g4, g5⟩
      · rcases hget j o' g2 with ⟨rfl, rfl⟩ | ⟨rfl, rfl⟩ | ⟨k3, k4, k5⟩
        · rfl
        · simp [blockOf, κ', nilSlice] at hb'
        · exact hs.rs.inj i j (.var cells) o' b h1 k5 hb (by rw [← hblk j o' k4]; exact hb')
      · simp [blockOf, κ', nilSlice] at hb
      · rcases hget j o' g2 with ⟨rfl, rfl⟩ | ⟨rfl, rfl⟩ | ⟨k3, k4, k5⟩
        · exact hs.rs.inj i j o (.var cells) b g5 h1 (by rw [← hblk i o g4]; exact hb) hb'
        · simp [blockOf, κ', nilSlice] at hb'
        · exact hs.rs.inj i j o o' b g5 k5 (by rw [← hblk i o g4]; exact hb) (by rw [← hblk j o' k4]; exact hb')
    · rcases hget i o ho with ⟨rfl, rfl⟩ | ⟨rfl, rfl⟩ | ⟨g3, g4, g5⟩
      · refine underAll_of fun j c hj => ?_
        rw [List.getElem?_set] at hj
        split at hj
        · rename_i he
          subst he
          simp only [hk, if_true, Option.some.injEq] at hj
          subst hj; exact hnew
        · exact Cell.under_mono hlive (under_of_mem (hs.rs.inner _ _ h1) j c hj)
      · rfl
      · exact Ob.under_mono hlive (hs.rs.inner i o g5)
  exact ⟨κ', ⟨fun _ _ h => h, fun _ _ _ => rfl, fun _ _ => rfl, hst.sl, hlive, fun _ _ h => .inl h, fun _ _ _ => rfl, fun b hb => .inl (hown b hb), Nat.le_refl _, rfl, rfl, rfl, by simp⟩,
    fun t v ht => by obtain ⟨x, g1, g2, g3⟩ := hs.env t v ht; exact ⟨x, g1, g2.stays hst g3, V.under_mono hlive g3⟩, hR, hs.defers, hs.size⟩
/-- ahead of a piece of code -/
theorem gA [HasGlob] (id k : Nat) (m : Bool) (n : Nat) {c : Code} {σ' : St} (h : W C c e σ' Q) (hn : isNilAt σ id k = true := by rfl) (hσ : fS (adoptSt σ id k m n) = some σ' := by rfl) : W C c e σ Q := by
  rw [fS_eq] at hσ; injection hσ with hσ; subst hσ
  intro κ w a hs
  obtain ⟨κ', h1, h2⟩ := adopt_ghost (m := m) (n := n) hs hn
  exact W.later h1 h h2
end
/-! a slice, held against nil -/
section
variable {C : Cx} {all l : List Oper} {k : Nat} {e : Env} {σ : St} {o : Oper} {Q : Env → St → Prop}
theorem lNil [HasGlob] {t t' et : TypeId} {x y : Operand} {rows : List (List D)} (hT : C.T.fits C.P) (h : ∀ b, (rows ≠ [] → b = false) → WL C all l (k + 1) (Env.put e o.dst (bool b)) σ Q) (ho : o.op = .binOp .eql t x y t' := by rfl) (hy : y = .const (.slice none 0 0) := by rfl) (hg : guardOk e all o = some true := by rfl) (hd : dstOk C.n o = true := by rfl)
    (ht : C.T.und t = some (.slice et) := by rfl) (hx : ev e x = some (.one (.d (.list rows))) := by rfl) : WL C all (o :: l) k e σ Q := by
  subst hy
  intro hall κ w a hs
  have hhead := head_of hall
  show wpOps C.P all.toArray _ (k :: idxs l (k + 1)) a w
  simp only [wpOps, hhead, guard_sound (ops := all.toArray) hs (by simpa using hg), if_true]
  left
  obtain ⟨hv, _⟩ := ev_sound hs hx
  generalize hz : a.eval x = z at hv
  cases hv with | one _ _ hc =>
  cases hc with | d _ _ hd' =>
  have key : ∃ ad len cap, z = .slice ad len cap ∧ (rows ≠ [] → ad.isNone = false) := by
    cases hd' with
    | nil ad cap => exact ⟨ad, 0, cap, rfl, fun h => absurd rfl h⟩
    | list b off cap sz rows vs h1 h2 h3 h4 => exact ⟨_, _, _, rfl, fun _ => rfl⟩
  obtain ⟨ad, len, cap, rfl, hne⟩ := key
  have heq : (Op.equal t (.slice ad len cap) (.slice none 0 0)).run C.P w = .ok ad.isNone w := by
    show (Op.equalIn (9999 + 1) t (.slice ad len cap) (.slice none 0 0)).run C.P w = _
    unfold Op.equalIn
    rw [run_bind (run_underlying hT ht)]
    cases ad <;> rfl
  have hb : (binOp .eql t (.slice ad len cap) (.slice none 0 0)).run C.P w = .ok (.bool ad.isNone) w := by
    simp only [binOp]; rw [run_bind heq]; rfl
  have hgd : (eqGuard .eql t x (.const (.slice none 0 0)) (.slice ad len cap) (.slice none 0 0)).run C.P w = .ok () w := by
    unfold eqGuard; rfl
  have hrun : (execOp a.eval o).run C.P w = .ok (.value (.bool ad.isNone)) w := by
    obtain ⟨dst, op, ty, pos, after, guard⟩ := o
    simp only at ho
    subst ho
    simp only [execOp, hz]
    show (do let z ← (do eqGuard .eql t x (.const (.slice none 0 0)) (.slice ad len cap) (.slice none 0 0); binOp .eql t (.slice ad len cap) (.slice none 0 0) : Sem Value); pure (Next.value z) : Sem Next).run C.P w = _
    rw [Sem.run_bind, Sem.run_bind, hgd]
    simp only [Result.andThen]
    rw [hb]; rfl
  unfold Oper.wp
  rw [hrun]
  have hs' : SR C.n κ w (Env.put e o.dst (bool ad.isNone)) σ (a.put o.dst (.bool ad.isNone)) := hs.put ⟨fun _ _ h => h, fun _ _ _ => rfl, fun _ _ => rfl, fun _ _ _ _ _ h => h⟩ (fun _ h => h) hs.rs (.one _ _ (.d _ _ (.sc _ rfl))) rfl (dstOk_spec hd)
  exact WO.later .refl (WL.tail hall (h ad.isNone hne)) hs'
/-- .. both ways -/
theorem lN [HasGlob] {t t' et : TypeId} {x y : Operand} {rows : List (List D)} (hT : C.T.fits C.P) {e1 e0 : Env} (h1 : rows = [] → WL C all l (k + 1) e1 σ Q) (h0 : WL C all l (k + 1) e0 σ Q) (ho : o.op = .binOp .eql t x y t' := by rfl) (hy : y = .const (.slice none 0 0) := by rfl) (hg : guardOk e all o = some true := by rfl) (hd : dstOk C.n o = true := by rfl)
    (ht : C.T.und t = some (.slice et) := by rfl) (hx : ev e x = some (.one (.d (.list rows))) := by rfl) (he1 : nput e o.dst (bool true) = some e1 := by rfl) (he0 : nput e o.dst (bool false) = some e0 := by rfl) : WL C all (o :: l) k e σ Q := by
  rw [nput_eq] at he1 he0
  injection he1 with he1; injection he0 with he0
  subst he1; subst he0
  refine lNil hT (fun b hb => ?_) ho hy hg hd ht hx
  cases b with
  | false => exact h0
  | true => exact h1 (Classical.byContradiction fun hn => by simpa using hb hn)
end
end Go.Am
/- The abstract machine: calls that hand on the first objects, under their own names. -/
namespace Go.Am
theorem rn_range (n : Nat) : ∀ (k i : Nat), i < n → rn (List.range' k n) i = k + i := by
  induction n with
  | zero => intro k i h; omega
  | succ n ih =>
    intro k i h
    rw [List.range'_succ]
    cases i with
    | zero => rfl
    | succ i => rw [rn, ih (k + 1) i (by omega)]; omega
mutual
theorem rnC_same {r : List Nat} {L : Nat → Bool} (hr : ∀ i, L i = true → rn r i = i) : ∀ {c : Cell}, c.under L = true → rnC r c = c
  | .d _, _ => rfl
  | .rptr _, _ => rfl
  | .arr id _ _, h => by rw [rnC, hr id (by simpa [Cell.under] using h)]
  | .ptr id _, h => by rw [rnC, hr id (by simpa [Cell.under] using h)]
  | .eptr id _ _ _ _ _, h => by rw [rnC, hr id (by simpa [Cell.under] using h)]
  | .map id, h => by rw [rnC, hr id (by simpa [Cell.under] using h)]
  | .fn _ a b, h => by
    simp only [Cell.under, Bool.and_eq_true] at h
    rw [rnC, rnCs_same hr h.1, rnCs_same hr h.2]
theorem rnCs_same {r : List Nat} {L : Nat → Bool} (hr : ∀ i, L i = true → rn r i = i) : ∀ {cs : List Cell}, underAll L cs = true → rnCs r cs = cs
  | [], _ => rfl
  | c :: cs, h => by
    simp only [underAll, Bool.and_eq_true] at h
    rw [rnCs, rnC_same hr h.1, rnCs_same hr h.2]
end
section
variable {r : List Nat} {L : Nat → Bool} (hr : ∀ i, L i = true → rn r i = i)
include hr
theorem rnF_same {x : FV} (h : x.under L = true) : rnF r x = x := by
  cases x with
  | one c => rw [rnF, rnC_same hr h]
  | agg cs => rw [rnF, rnCs_same hr h]
theorem rnFs_same : ∀ {xs : List FV}, xs.all (FV.under L) = true → rnFs r xs = xs
  | [], _ => rfl
  | x :: xs, h => by
    simp only [List.all_cons, Bool.and_eq_true] at h
    rw [rnFs, rnF_same hr h.1, rnFs_same h.2]
theorem rnV_same {v : V} (h : v.under L = true) : rnV r v = v := by
  cases v with
  | one c => rw [rnV, rnC_same hr h]
  | agg cs => rw [rnV, rnCs_same hr h]
  | tup xs => rw [rnV, rnFs_same hr h]
  | undef => rfl
theorem rnVs_same : ∀ {vs : List V}, (∀ v ∈ vs, v.under L = true) → rnVs r vs = vs
  | [], _ => rfl
  | v :: vs, h => by rw [rnVs, rnV_same hr (h v (by simp)), rnVs_same fun v hv => h v (by simp [hv])]
theorem rnEs_same : ∀ {es : List (Value × FV)}, (es.all fun x => x.2.under L) = true → rnEs r es = es
  | [], _ => rfl
  | (k, x) :: es, h => by
    simp only [List.all_cons, Bool.and_eq_true] at h
    rw [rnEs, rnF_same hr h.1, rnEs_same h.2]
theorem rnO_same {o : Ob} (h : o.under L = true) : rnO r o = o := by
  cases o with
  | var cs => rw [rnO, rnCs_same hr h]
  | arr a b c d => rfl
  | map es => rw [rnO, rnEs_same hr h]
  | dead => rfl
end
theorem fits_of {σ : St} {R : List Nat} : ∀ {r : List Nat} {σ0 : St}, σ0.length = r.length → (∀ i o, σ0[i]? = some o → σ[rn r i]? = some (rnO R o)) → fits σ r σ0 R
  | [], [], _, _ => trivial
  | [], _ :: _, h, _ => by simp at h
  | _ :: _, [], h, _ => by simp at h
  | x :: r, o :: s, h, hg => ⟨hg 0 o rfl, fits_of (by simpa using h) fun i o' ho => hg (i + 1) o' (by simpa using ho)⟩
theorem setAll_pre {R : List Nat} : ∀ (os pre mid τ : St), mid.length = os.length → (∀ o ∈ os, rnO R o = o) → setAll R (pre ++ mid ++ τ) (List.range' pre.length os.length) os = pre ++ os ++ τ
  | [], pre, mid, τ, h, _ => by
    have : mid = [] := List.length_eq_zero_iff.1 (by simpa using h)
    subst this
    simp [setAll, rnS]
  | o :: os, pre, [], τ, h, _ => by simp at h
  | o :: os, pre, m :: mid, τ, h, ho => by
    rw [List.length_cons, List.range'_succ, setAll, ho o (by simp)]
    have h1 : (pre ++ (m :: mid) ++ τ).set pre.length o = (pre ++ [o]) ++ mid ++ τ := by
      rw [List.append_assoc, List.set_append_right _ _ (Nat.le_refl _)]; simp
    have h2 : pre.length + 1 = (pre ++ [o]).length := by simp
    rw [h1, h2, setAll_pre os (pre ++ [o]) mid τ (by simpa using h) fun o ho' => ho o (by simp [ho'])]
    simp
section
variable {C : Cx} {all l : List Oper} {k : Nat} {e : Env} {σ : St} {o : Oper} {Q : Env → St → Prop}
/-- a call that hands on the first objects, under their own names -/
theorem WL.crp [HasGlob] (r : List Nat) (σ0 τ : St) (vs0 : List V) {f : FuncId} {vs : List V} {ret : V} {σ1 : St} {e' : Env} (hS : Spec C.P f vs0 σ0 (fun x s => x = ret ∧ s = σ1)) (h : WL C all l (k + 1) e' (σ1 ++ τ) Q)
    (hσ0 : (σ0.all fun o => o.under (alive σ0)) = true) (hσ1 : (σ1.all fun o => o.under (inR r)) = true) (hc : calleeOf e o = some (f, vs) := by rfl)
    (hr : r = List.range' 0 σ0.length := by rfl) (hl1 : σ1.length = σ0.length := by rfl) (hσ : σ = σ0 ++ τ := by rfl)
    (hret : ret.under (inR r) = true := by rfl) (hvs : (vs0.all fun v => v.under (alive σ0) && v.under (inR r)) = true := by rfl) (hg : guardOk e all o = some true := by rfl) (hd : dstOk C.n o = true := by rfl)
    (hh : handVs r (fun id => σ[id]?) vs = some vs0 := by rfl) (he : nput e o.dst ret = some e' := by rfl) : WL C all (o :: l) k e σ Q := by
  have hlen : r.length = σ0.length := by rw [hr]; simp
  have hid : ∀ i, inR r i = true → rn r i = i := by
    intro i hi
    rw [inR_lt, hlen] at hi
    rw [hr, rn_range _ _ _ hi]; omega
  have hin : (σ0.all fun o => o.under (inR r)) = true := by
    simp only [List.all_eq_true] at hσ0 ⊢
    intro o ho
    exact Ob.under_mono (fun i hi => inR_lt.2 (by rw [hlen]; exact alive_lt hi)) (hσ0 o ho)
  have hnd : nodup r = true := by
    have h1 : r.Nodup := by rw [hr]; exact List.nodup_range'
    have : ∀ {r : List Nat}, r.Nodup → nodup r = true := by
      intro r hr
      induction r with
      | nil => rfl
      | cons x r ih =>
        rw [List.nodup_cons] at hr
        simp only [nodup, ih hr.2, Bool.and_true, Bool.not_eq_true']
        rw [Bool.eq_false_iff]
        intro hx; exact hr.1 (by simpa using hx)
    exact this h1
  have hvs1 : rnVs r vs0 = vs0 := rnVs_same hid fun v hv => by
    have := List.all_eq_true.1 hvs v hv
    rw [Bool.and_eq_true] at this; exact this.2
  have hall : allIds σ r σ1 = r := by rw [allIds, List.drop_eq_nil_of_le (by omega)]; simp [newIds]
  have hm : merge σ r σ1 = σ1 ++ τ := by
    rw [merge, hall, hσ]
    have := setAll_pre (R := r) σ1 [] σ0 τ hl1.symm fun o ho => rnO_same hid (List.all_eq_true.1 hσ1 o ho)
    simp only [List.nil_append, List.length_nil] at this
    rw [show List.range' 0 σ1.length = r by rw [hl1, hr]] at this
    exact this
  refine WL.cr' r σ0 vs0 hS hg hd hc (by rw [hvs1]; exact hh) hnd (fits_of hlen.symm fun i o ho => ?_) ?_ (v' := ret) (σ' := σ1 ++ τ) ?_ ?_ he h
  · have hi : i < σ0.length := (List.getElem?_eq_some_iff.1 ho).1
    rw [hid i (inR_lt.2 (by omega)), rnO_same hid (List.all_eq_true.1 hin o (List.mem_of_getElem? ho)), hσ, List.getElem?_append_left hi]
    exact ho
  · simp only [closed, inS, hin, hσ0, hvs, Bool.and_self]
  · rw [fV_eq, hall, rnV_same hid hret]
  · rw [fS_eq, hm]
end
end Go.Am
/- The abstract machine: a slice is built of what has growing arrays in it: these are read as data. -/
namespace Go.Am
def dataU (look : Look) : Cell → Option D
  | .d (.sc (.slice none 0 0)) => some (.list [])
  | .d x => some x
  | .arr id _ _ => match look id with
    | some (.arr _ false _ rows) => some (.list rows)
    | _ => none
  | _ => none
def dataUs (look : Look) : List Cell → Option (List D)
  | [] => some []
  | c :: r => match dataU look c, dataUs look r with
    | some x, some xs => some (x :: xs)
    | _, _ => none
theorem dataU_eq {look : Look} {c : Cell} {x : D} (h : dataU look c = some x) (ho : okU look c) : dataOf look c = some x := by
  unfold dataU at h
  split at h
  · injection h with h; subst h; rfl
  · rename_i h1
    injection h with h; subst h
    unfold dataOf
    split
    · rename_i h2; injection h2 with h2; exact absurd h2 (fun e => h1 e)
    · rename_i h2; injection h2 with h2; rw [h2]
    · rename_i h2; simp at h2
    · rename_i a b c; exact absurd rfl (b _)
  · rename_i id ep len
    split at h
    · rename_i ep' sz rows hl
      injection h with h; subst h
      simp only [okU, hl] at ho
      obtain ⟨rfl, rfl⟩ := ho
      simp [dataOf, rowsOf, hl]
    · simp at h
  · simp at h
theorem dataUs_eq {look : Look} : ∀ {cs : List Cell} {ds : List D}, dataUs look cs = some ds → okUs look cs → dataAll look cs = some ds
  | [], ds, h, _ => h
  | c :: r, ds, h, ho => by
    simp only [dataUs] at h
    cases h1 : dataU look c with
    | none => simp [h1] at h
    | some x =>
    cases h2 : dataUs look r with
    | none => simp [h1, h2] at h
    | some xs =>
    simp only [h1, h2, Option.some.injEq] at h; subst h
    simp only [dataAll, dataU_eq h1 ho.1, dataUs_eq h2 ho.2]
section
variable {C : Cx} {e : Env} {σ : St} {o : Oper} {all l : List Oper} {k : Nat}
theorem aop_bs [HasGlob] {t et : TypeId} {len n : Nat} {parts : Array (Nat × Operand)} {ps : List (Nat × List Cell)} {cs0 cs : List Cell} {ds : List D} (ho : o.op = .buildSlice t len parts) (hp : partsOf (ev (opEnv e o)) parts.toList = some ps) (he : C.T.elem t = some et) (hn : C.T.size et = some n) (hle : Nat.ble (len * n) (2 ^ 24) = true)
    (hz : zeroRows C.T et n len = some cs0) (hf : fillAt (fun i => some (i * n, n)) cs0 ps = some cs) (hd : dataUs (inFoot (foot (opEnv e o) o) σ) cs = some ds) (hok : okUs (inFoot (foot (opEnv e o) o) σ) cs) (hm : arMode C.ar o.dst = none) :
    aop C 0 e σ o = some (.one (.d (.list (rowsFrom n len ds))), []) := by
  unfold aop core
  rw [ho]
  simp only [hp, buildSliceOf, he, hn, hle, hz, hf, dataUs_eq hd hok, hm, arrOrList, cond_true]
theorem lLU [HasGlob] {Q : Env → St → Prop} (hT : C.T.fits C.P) {t et : TypeId} {len n : Nat} {parts : Array (Nat × Operand)} {ps : List (Nat × List Cell)} {cs0 cs : List Cell} {ds : List D} {rows' : List (List D)} {e' : Env} (h : WL C all l (k + 1) e' σ Q) (ho : o.op = .buildSlice t len parts := by rfl) (hb : isBuildSlice o = true := by rfl) (hg : guardOk e all o = some true := by rfl) (hd : dstOk C.n o = true := by rfl) (hmk : makes C o = false := by rfl)
    (hp : partsOf (ev (opEnv e o)) parts.toList = some ps := by rfl) (he : C.T.elem t = some et := by rfl) (hn : C.T.size et = some n := by rfl) (hle : Nat.ble (len * n) (2 ^ 24) = true := by rfl) (hz : zeroRows C.T et n len = some cs0 := by rfl) (hf : fillAt (fun i => some (i * n, n)) cs0 ps = some cs := by rfl) (hds : dataUs (inFoot (foot (opEnv e o) o) σ) cs = some ds := by rfl)
    (hok : okUs (inFoot (foot (opEnv e o) o) σ) cs := by repeat' (first | exact trivial | refine And.intro ?_ ?_ | rfl)) (hm : arMode C.ar o.dst = none := by rfl) (hr : fLL (rowsFrom n len ds) = some rows' := by rfl) (hput : nput e o.dst (.one (.d (.list rows'))) = some e' := by rfl) : WL C all (o :: l) k e σ Q :=
  WL.s' hb hT hg hd hmk (aop_bs ho hp he hn hle hz hf hds hok hm) hr hput h
theorem dLU [HasGlob] {acc : List Rec} {Q : Env → St → Prop} (hT : C.T.fits C.P) {t et : TypeId} {len n : Nat} {parts : Array (Nat × Operand)} {ps : List (Nat × List Cell)} {cs0 cs : List Cell} {ds : List D} {rows' : List (List D)} {e' : Env} {T F : List Nat} (h : DL C all l (k + 1) e' σ (⟨o.dst, .undef, [], T, F, [], []⟩ :: acc) Q) (ho : o.op = .buildSlice t len parts := by rfl) (hb : isBuildSlice o = true := by rfl) (hg : guardOk e all o = some true := by rfl) (hd : dstOk C.n o = true := by rfl) (hmk : makes C o = false := by rfl)
    (hp : partsOf (ev (opEnv e o)) parts.toList = some ps := by rfl) (he : C.T.elem t = some et := by rfl) (hn : C.T.size et = some n := by rfl) (hle : Nat.ble (len * n) (2 ^ 24) = true := by rfl) (hz : zeroRows C.T et n len = some cs0 := by rfl) (hf : fillAt (fun i => some (i * n, n)) cs0 ps = some cs := by rfl) (hds : dataUs (inFoot (foot (opEnv e o) o) σ) cs = some ds := by rfl)
    (hok : okUs (inFoot (foot (opEnv e o) o) σ) cs := by repeat' (first | exact trivial | refine And.intro ?_ ?_ | rfl)) (hm : arMode C.ar o.dst = none := by rfl) (hr : fLL (rowsFrom n len ds) = some rows' := by rfl) (hT' : fL (reads all o) = some T := by rfl) (hF' : fL (foot (opEnv e o) o) = some F := by rfl) (hput : nput e o.dst (.one (.d (.list rows'))) = some e' := by rfl) : DL C all (o :: l) k e σ acc Q :=
  DL.s' hb hT hg hd hmk (aop_bs ho hp he hn hle hz hf hds hok hm) hr hT' hF' hput h
theorem bs_mid {s : ByteArray} {done rest : List UInt8} {b : UInt8} {j : Int} (hl : s.data.toList = done ++ b :: rest) (hj : j = done.length) : s.data.toList[j.toNat]? = some b := by rw [hl, hj]; simp
theorem aop_bx [HasGlob] {nid : Nat} {t : TypeId} {x i : Operand} {s : ByteArray} {kx : IntKind} {j : Int} {b : UInt8} (ho : o.op = .index t x i) (ht : C.T.und t = some .string) (hx : ev (opEnv e o) x = some (.one (.d (.sc (.string s))))) (hi : ev (opEnv e o) i = some (.one (.d (.sc (.int kx j)))))
    (h4 : 0 ≤ j) (h3 : s.data.toList[j.toNat]? = some b) : aop C nid e σ o = some (int .u8 b.toNat, []) := by
  unfold aop core
  rw [ho]
  simp only [hx, hi, indexOf, ht, decide_eq_true h4, cond_true, h3, noU]
/-- a byte of a string -/
theorem lXs [HasGlob] {Q : Env → St → Prop} (hT : C.T.fits C.P) {t : TypeId} {x i : Operand} {s : ByteArray} {kx : IntKind} {j : Int} {b : UInt8} {e' : Env} (h : WL C all l (k + 1) e' σ Q) (ho : o.op = .index t x i := by rfl) (hg : guardOk e all o = some true := by rfl) (hd : dstOk C.n o = true := by rfl) (hm : makes C o = false := by rfl)
    (ht : C.T.und t = some .string := by rfl) (hx : ev (opEnv e o) x = some (.one (.d (.sc (.string s)))) := by rfl) (hi : ev (opEnv e o) i = some (.one (.d (.sc (.int kx j)))) := by rfl)
    (h3 : s.data.toList[j.toNat]? = some b := by first | assumption | exact bs_mid (by assumption) (by assumption)) (h4 : 0 ≤ j := by first | omega | assumption) (he : nput e o.dst (int .u8 b.toNat) = some e' := by rfl) : WL C all (o :: l) k e σ Q :=
  WL.q' hT hg hd hm (aop_bx ho ht hx hi h4 h3) (fV_eq _) he h
theorem dXs [HasGlob] {acc : List Rec} {Q : Env → St → Prop} (hT : C.T.fits C.P) {t : TypeId} {x i : Operand} {s : ByteArray} {kx : IntKind} {j : Int} {b : UInt8} {e' : Env} {T F : List Nat} (h : DL C all l (k + 1) e' σ (⟨o.dst, .undef, [], T, F, [], []⟩ :: acc) Q) (ho : o.op = .index t x i := by rfl) (hg : guardOk e all o = some true := by rfl) (hd : dstOk C.n o = true := by rfl) (hm : makes C o = false := by rfl)
    (ht : C.T.und t = some .string := by rfl) (hx : ev (opEnv e o) x = some (.one (.d (.sc (.string s)))) := by rfl) (hi : ev (opEnv e o) i = some (.one (.d (.sc (.int kx j)))) := by rfl)
    (h3 : s.data.toList[j.toNat]? = some b := by first | assumption | exact bs_mid (by assumption) (by assumption)) (h4 : 0 ≤ j := by first | omega | assumption) (hT' : fL (reads all o) = some T := by rfl) (hF' : fL (foot (opEnv e o) o) = some F := by rfl) (he : nput e o.dst (int .u8 b.toNat) = some e' := by rfl) : DL C all (o :: l) k e σ acc Q :=
  DL.q' hT hg hd hm (aop_bx ho ht hx hi h4 h3) (fV_eq _) hT' hF' he h
def handUC (r : List Nat) (look : Look) : Cell → Option Cell
  | .arr id ep len => bif r.elem id then some (.arr id ep len) else snU look (.arr id ep len)
  | c => snU look c
def okHC (r : List Nat) (look : Look) : Cell → Prop
  | .arr id ep len => bif r.elem id then True else okU look (.arr id ep len)
  | _ => True
theorem handUC_eq {r : List Nat} {look : Look} {c c' : Cell} (h : handUC r look c = some c') (ho : okHC r look c) : handC r look c = some c' := by
  unfold handUC at h
  unfold handC
  split at h
  · rename_i id ep len
    have ho' : bif r.elem id then True else okU look (.arr id ep len) := ho
    show (bif r.elem id then some (Cell.arr id ep len) else snap look (.arr id ep len)) = some c'
    cases hr : r.elem id with
    | true => rw [hr] at h; exact h
    | false =>
      rw [hr] at h ho'
      have h' : snU look (.arr id ep len) = some c' := h
      exact snU_eq h' ho'
  · rename_i hn
    split
    · rename_i id ep len; exact absurd rfl (hn id ep len)
    · refine snU_eq h ?_
      unfold okU
      split
      · rename_i id ep len _; exact absurd rfl (hn id ep len)
      · trivial
def handUCs (r : List Nat) (look : Look) : List Cell → Option (List Cell)
  | [] => some []
  | c :: cs => match handUC r look c, handUCs r look cs with
    | some x, some xs => some (x :: xs)
    | _, _ => none
def okHCs (r : List Nat) (look : Look) : List Cell → Prop
  | [] => True
  | c :: cs => okHC r look c ∧ okHCs r look cs
theorem handUCs_eq {r : List Nat} {look : Look} : ∀ {cs cs' : List Cell}, handUCs r look cs = some cs' → okHCs r look cs → handCs r look cs = some cs'
  | [], cs', h, _ => h
  | c :: cs, cs', h, ho => by
    simp only [handUCs] at h
    cases h1 : handUC r look c with
    | none => simp [h1] at h
    | some x =>
    cases h2 : handUCs r look cs with
    | none => simp [h1, h2] at h
    | some xs =>
    simp only [h1, h2, Option.some.injEq] at h; subst h
    simp only [handCs, handUC_eq h1 ho.1, handUCs_eq h2 ho.2]
def handU (r : List Nat) (look : Look) : V → Option V
  | .one c => match handUC r look c with
    | some c => some (.one c)
    | none => none
  | .agg cs => match handUCs r look cs with
    | some cs => some (.agg cs)
    | none => none
  | _ => none
def okH (r : List Nat) (look : Look) : V → Prop
  | .one c => okHC r look c
  | .agg cs => okHCs r look cs
  | _ => True
theorem handU_eq {r : List Nat} {look : Look} {v v' : V} (h : handU r look v = some v') (ho : okH r look v) : handV r look v = some v' := by
  cases v with
  | one c =>
    simp only [handU] at h
    cases h1 : handUC r look c with
    | none => simp [h1] at h
    | some y => simp only [h1, Option.some.injEq] at h; subst h; simp only [handV, handUC_eq h1 ho, Option.map_some]
  | agg cs =>
    simp only [handU] at h
    cases h1 : handUCs r look cs with
    | none => simp [h1] at h
    | some y => simp only [h1, Option.some.injEq] at h; subst h; simp only [handV, handUCs_eq h1 ho, Option.map_some]
  | tup xs => simp [handU] at h
  | undef => simp [handU] at h
def handUs (r : List Nat) (look : Look) : List V → Option (List V)
  | [] => some []
  | v :: vs => match handU r look v, handUs r look vs with
    | some x, some xs => some (x :: xs)
    | _, _ => none
def okHs (r : List Nat) (look : Look) : List V → Prop
  | [] => True
  | v :: vs => okH r look v ∧ okHs r look vs
theorem handUs_eq {r : List Nat} {look : Look} : ∀ {vs vs' : List V}, handUs r look vs = some vs' → okHs r look vs → handVs r look vs = some vs'
  | [], vs', h, _ => h
  | v :: vs, vs', h, ho => by
    simp only [handUs] at h
    cases h1 : handU r look v with
    | none => simp [h1] at h
    | some x =>
    cases h2 : handUs r look vs with
    | none => simp [h1, h2] at h
    | some xs =>
    simp only [h1, h2, Option.some.injEq] at h; subst h
    simp only [handVs, handU_eq h1 ho.1, handUs_eq h2 ho.2]
/-- a call that hands on the first objects; lengths of growing arrays are told by rfl -/
theorem WL.crpU [HasGlob] {Q : Env → St → Prop} (r : List Nat) (σ0 τ : St) (vs0 : List V) {f : FuncId} {vs : List V} {ret : V} {σ1 : St} {e' : Env} (hS : Spec C.P f vs0 σ0 (fun x s => x = ret ∧ s = σ1)) (h : WL C all l (k + 1) e' (σ1 ++ τ) Q)
    (hσ0 : (σ0.all fun o => o.under (alive σ0)) = true := by rfl) (hσ1 : (σ1.all fun o => o.under (inR r)) = true := by rfl) (hc : calleeOf e o = some (f, vs) := by rfl)
    (hr : r = List.range' 0 σ0.length := by rfl) (hl1 : σ1.length = σ0.length := by rfl) (hσ : σ = σ0 ++ τ := by rfl)
    (hret : ret.under (inR r) = true := by rfl) (hvs : (vs0.all fun v => v.under (alive σ0) && v.under (inR r)) = true := by rfl) (hg : guardOk e all o = some true := by rfl) (hd : dstOk C.n o = true := by rfl)
    (hh : handUs r (fun id => σ[id]?) vs = some vs0 := by rfl) (hho : okHs r (fun id => σ[id]?) vs := by repeat' (first | exact trivial | refine And.intro ?_ ?_ | rfl)) (he : nput e o.dst ret = some e' := by rfl) : WL C all (o :: l) k e σ Q :=
  WL.crp r σ0 τ vs0 hS h hσ0 hσ1 hc hr hl1 hσ hret hvs hg hd (handUs_eq hh hho) he
end
end Go.Am
/- The abstract machine: elements of growing arrays that are written: found, read, written. -/
namespace Go.Am
section
variable {C : Cx} {e : Env} {σ : St} {o : Oper} {all l : List Oper} {k : Nat}
/-- where an element of a written array is -/
theorem lXw [HasGlob] {Q : Env → St → Prop} (hT : C.T.fits C.P) {t et : TypeId} {x i : Operand} {n id ep len : Nat} {rows : List (List D)} {kx : IntKind} {j : Int} {row : List D} {e' : Env} (h : WL C all l (k + 1) e' σ Q) (ho : o.op = .indexAddr t x i := by rfl) (hg : guardOk e all o = some true := by rfl) (hd : dstOk C.n o = true := by rfl)
    (h1 : C.T.und t = some (.slice et) := by rfl) (h2 : C.T.size et = some n := by rfl) (hx : ev (opEnv e o) x = some (.one (.arr id ep len)) := by rfl) (hi : ev (opEnv e o) i = some (.one (.d (.sc (.int kx j)))) := by rfl) (hl : inFoot (foot (opEnv e o) o) σ id = some (.arr ep true n rows) := by rfl) (hn : len = rows.length := by first | rfl | assumption | simp only [List.length_set])
    (h3 : rows[j.toNat]? = some row := by first | assumption | exact at_mid (by assumption) (by assumption) | exact at_of (by assumption)) (h4 : 0 ≤ j := by first | omega | assumption) (he : nput e o.dst (.one (.eptr id ep len n j.toNat 0)) = some e' := by rfl) : WL C all (o :: l) k e σ Q := by
  have hm : makes C o = false := by unfold makes; rw [ho]
  exact WL.q' hT hg hd hm (aop_ixw ho h1 h2 hx hi hl hn h4 h3) (fV_eq _) he h
theorem dXw [HasGlob] {acc : List Rec} {Q : Env → St → Prop} (hT : C.T.fits C.P) {t et : TypeId} {x i : Operand} {n id ep len : Nat} {rows : List (List D)} {kx : IntKind} {j : Int} {row : List D} {e' : Env} {T F : List Nat} (h : DL C all l (k + 1) e' σ (⟨o.dst, .undef, [], T, F, [], []⟩ :: acc) Q) (ho : o.op = .indexAddr t x i := by rfl) (hg : guardOk e all o = some true := by rfl) (hd : dstOk C.n o = true := by rfl)
    (h1 : C.T.und t = some (.slice et) := by rfl) (h2 : C.T.size et = some n := by rfl) (hx : ev (opEnv e o) x = some (.one (.arr id ep len)) := by rfl) (hi : ev (opEnv e o) i = some (.one (.d (.sc (.int kx j)))) := by rfl) (hl : inFoot (foot (opEnv e o) o) σ id = some (.arr ep true n rows) := by rfl) (hn : len = rows.length := by first | rfl | assumption | simp only [List.length_set])
    (h3 : rows[j.toNat]? = some row := by first | assumption | exact at_mid (by assumption) (by assumption) | exact at_of (by assumption)) (h4 : 0 ≤ j := by first | omega | assumption) (hT' : fL (reads all o) = some T := by rfl) (hF' : fL (foot (opEnv e o) o) = some F := by rfl) (he : nput e o.dst (.one (.eptr id ep len n j.toNat 0)) = some e' := by rfl) : DL C all (o :: l) k e σ acc Q := by
  have hm : makes C o = false := by unfold makes; rw [ho]
  exact DL.q' hT hg hd hm (aop_ixw ho h1 h2 hx hi hl hn h4 h3) (fV_eq _) hT' hF' he h
theorem aop_le [HasGlob] {nid : Nat} {t : TypeId} {a : Operand} {id ep len sz idx off n : Nat} {g m : Bool} {rows : List (List D)} {row : List D} {v : V} (ho : o.op = .load t a) (ha : ev (opEnv e o) a = some (.one (.eptr id ep len sz idx off))) (hs : C.T.size t = some n) (hg : C.T.agg t = some g)
    (hl : inFoot (foot (opEnv e o) o) σ id = some (.arr ep m sz rows)) (hn : len = rows.length) (hr : rows[idx]? = some row) (hle : Nat.ble (off + n) row.length = true) (hv : mk g (((row.drop off).take n).map .d) = some v) : aop C nid e σ o = some (v, []) := by
  subst hn
  unfold aop core
  rw [ho]
  simp only [ha, loadFrom, hs, hg, hl, hr, hle, hv, Nat.beq_refl, cond_true, Bool.and_self, noU]
/-- an element of a written array is read -/
theorem lLe [HasGlob] {Q : Env → St → Prop} (hT : C.T.fits C.P) {t : TypeId} {a : Operand} {id ep len sz idx off n : Nat} {g m : Bool} {rows : List (List D)} {row : List D} {v v' : V} {e' : Env} (h : WL C all l (k + 1) e' σ Q) (ho : o.op = .load t a := by rfl) (hgd : guardOk e all o = some true := by rfl) (hd : dstOk C.n o = true := by rfl)
    (ha : ev (opEnv e o) a = some (.one (.eptr id ep len sz idx off)) := by rfl) (hs : C.T.size t = some n := by rfl) (hg : C.T.agg t = some g := by rfl) (hl : inFoot (foot (opEnv e o) o) σ id = some (.arr ep m sz rows) := by rfl) (hn : len = rows.length := by first | rfl | assumption | simp only [List.length_set])
    (hr : rows[idx]? = some row := by first | assumption | exact at_mid (by assumption) (by assumption) | exact at_of (by assumption)) (hle : Nat.ble (off + n) row.length = true := by rfl) (hv : mk g (((row.drop off).take n).map .d) = some v := by rfl) (hv' : fV v = some v' := by rfl) (he : nput e o.dst v' = some e' := by rfl) : WL C all (o :: l) k e σ Q := by
  have hm : makes C o = false := by unfold makes; rw [ho]
  exact WL.q' hT hgd hd hm (aop_le ho ha hs hg hl hn hr hle hv) hv' he h
theorem dLe [HasGlob] {acc : List Rec} {Q : Env → St → Prop} (hT : C.T.fits C.P) {t : TypeId} {a : Operand} {id ep len sz idx off n : Nat} {g m : Bool} {rows : List (List D)} {row : List D} {v v' : V} {e' : Env} {T F : List Nat} (h : DL C all l (k + 1) e' σ (⟨o.dst, .undef, [], T, F, [], []⟩ :: acc) Q) (ho : o.op = .load t a := by rfl) (hgd : guardOk e all o = some true := by rfl) (hd : dstOk C.n o = true := by rfl)
    (ha : ev (opEnv e o) a = some (.one (.eptr id ep len sz idx off)) := by rfl) (hs : C.T.size t = some n := by rfl) (hg : C.T.agg t = some g := by rfl) (hl : inFoot (foot (opEnv e o) o) σ id = some (.arr ep m sz rows) := by rfl) (hn : len = rows.length := by first | rfl | assumption | simp only [List.length_set])
    (hr : rows[idx]? = some row := by first | assumption | exact at_mid (by assumption) (by assumption) | exact at_of (by assumption)) (hle : Nat.ble (off + n) row.length = true := by rfl) (hv : mk g (((row.drop off).take n).map .d) = some v := by rfl) (hv' : fV v = some v' := by rfl) (hT' : fL (reads all o) = some T := by rfl) (hF' : fL (foot (opEnv e o) o) = some F := by rfl) (he : nput e o.dst v' = some e' := by rfl) : DL C all (o :: l) k e σ acc Q := by
  have hm : makes C o = false := by unfold makes; rw [ho]
  exact DL.q' hT hgd hd hm (aop_le ho ha hs hg hl hn hr hle hv) hv' hT' hF' he h
theorem aop_se [HasGlob] {nid : Nat} {t : TypeId} {a x : Operand} {id ep len sz idx off n : Nat} {rows : List (List D)} {row ds : List D} {xv : V} {cs : List Cell} (ho : o.op = .store t a x) (ha : ev (opEnv e o) a = some (.one (.eptr id ep len sz idx off))) (hx : ev (opEnv e o) x = some xv) (hc : xv.cells = some cs) (hs : C.T.size t = some n) (hb : Nat.beq n cs.length = true)
    (hda : dataAll (inFoot (foot (opEnv e o) o) σ) cs = some ds) (hl : inFoot (foot (opEnv e o) o) σ id = some (.arr ep true sz rows)) (hn : len = rows.length) (hr : rows[idx]? = some row) (hle : Nat.ble (off + n) row.length = true) : aop C nid e σ o = some (.undef, [(id, .arr ep true sz (rows.set idx (setD row off ds)))]) := by
  subst hn
  unfold aop core
  rw [ho]
  simp only [ha, hx, hc, storeTo, hs, hb, hl, hda, hr, hle, Nat.beq_refl, cond_true, Bool.and_self, noV]
/-- an element of an array is written -/
theorem lSe [HasGlob] {Q : Env → St → Prop} (hT : C.T.fits C.P) {t : TypeId} {a x : Operand} {id ep len sz idx off n : Nat} {rows : List (List D)} {row ds row' : List D} {xv : V} {cs : List Cell} {σ' : St} {e' : Env} (h : WL C all l (k + 1) e' σ' Q) (ho : o.op = .store t a x := by rfl) (hgd : guardOk e all o = some true := by rfl) (hd : dstOk C.n o = true := by rfl)
    (ha : ev (opEnv e o) a = some (.one (.eptr id ep len sz idx off)) := by rfl) (hx : ev (opEnv e o) x = some xv := by rfl) (hc : xv.cells = some cs := by rfl) (hs : C.T.size t = some n := by rfl) (hb : Nat.beq n cs.length = true := by rfl) (hda : dataAll (inFoot (foot (opEnv e o) o) σ) cs = some ds := by rfl) (hl : inFoot (foot (opEnv e o) o) σ id = some (.arr ep true sz rows) := by rfl) (hn : len = rows.length := by first | rfl | assumption | simp only [List.length_set])
    (hr : rows[idx]? = some row := by first | assumption | exact at_mid (by assumption) (by assumption) | exact at_of (by assumption)) (hle : Nat.ble (off + n) row.length = true := by rfl) (hrow : fL (setD row off ds) = some row' := by rfl) (hσ : fS (σ.upd [(id, .arr ep true sz (rows.set idx row'))]) = some σ' := by rfl) (he : nput e o.dst .undef = some e' := by rfl) : WL C all (o :: l) k e σ Q := by
  rw [fL_eq] at hrow; injection hrow with hrow; subst hrow
  have hm : makes C o = false := by unfold makes; rw [ho]
  exact WL.w' hT hgd hd hm (aop_se ho ha hx hc hs hb hda hl hn hr hle) rfl hσ he h
theorem dSe [HasGlob] {acc : List Rec} {Q : Env → St → Prop} (hT : C.T.fits C.P) {t : TypeId} {a x : Operand} {id ep len sz idx off n : Nat} {rows : List (List D)} {row ds row' : List D} {xv : V} {cs : List Cell} {σ' : St} {e' : Env} {T F ws : List Nat} (h : DL C all l (k + 1) e' σ' (⟨o.dst, .undef, ws.map fun i => (i, .dead), T, F, [], []⟩ :: acc) Q) (ho : o.op = .store t a x := by rfl) (hgd : guardOk e all o = some true := by rfl) (hd : dstOk C.n o = true := by rfl)
    (ha : ev (opEnv e o) a = some (.one (.eptr id ep len sz idx off)) := by rfl) (hx : ev (opEnv e o) x = some xv := by rfl) (hc : xv.cells = some cs := by rfl) (hs : C.T.size t = some n := by rfl) (hb : Nat.beq n cs.length = true := by rfl) (hda : dataAll (inFoot (foot (opEnv e o) o) σ) cs = some ds := by rfl) (hl : inFoot (foot (opEnv e o) o) σ id = some (.arr ep true sz rows) := by rfl) (hn : len = rows.length := by first | rfl | assumption | simp only [List.length_set])
    (hr : rows[idx]? = some row := by first | assumption | exact at_mid (by assumption) (by assumption) | exact at_of (by assumption)) (hle : Nat.ble (off + n) row.length = true := by rfl) (hrow : fL (setD row off ds) = some row' := by rfl) (hσ : fS (σ.upd [(id, .arr ep true sz (rows.set idx row'))]) = some σ' := by rfl) (hT' : fL (reads all o) = some T := by rfl) (hF' : fL (foot (opEnv e o) o) = some F := by rfl) (hw : fL [id] = some ws := by rfl) (he : nput e o.dst .undef = some e' := by rfl) : DL C all (o :: l) k e σ acc Q := by
  rw [fL_eq] at hrow; injection hrow with hrow; subst hrow
  have hm : makes C o = false := by unfold makes; rw [ho]
  exact DL.w' hT hgd hd hm (aop_se ho ha hx hc hs hb hda hl hn hr hle) rfl hσ hT' hF' hw he h
/-- a function's end that hands back what it was handed: references stay, its own objects are gone -/
theorem fRk {C : Cx} {e : Env} {σ : St} {ex : Ex} {rs : List ResultVar} {n : Nat} {R : V → St → Prop} {vs : List V} {v r' : V} {σ' : St} (h7 : R r' σ') (hx : ex = .normal ∨ ex = .ret := by first | exact .inr rfl | exact .inl rfl) (h1 : resOf C.T e (fun id => σ[id]?) rs = some vs := by rfl) (h2 : tupled vs = some v := by rfl) (hr : fV v = some r' := by rfl)
    (h4 : fS (σ.take n) = some σ' := by rfl) (h5 : r'.under (alive σ') = true := by rfl) (h6 : (σ'.all fun o => o.under (alive σ')) = true := by rfl) : (ex = .normal ∨ ex = .ret) ∧ Fin C rs n e σ R := by
  rw [fV_eq] at hr; injection hr with hr; subst hr
  rw [fS_eq] at h4; injection h4 with h4; subst h4
  exact ⟨hx, vs, v, v, _, h1, h2, .inl rfl, .inr ⟨rfl, h5, h6⟩, h7⟩
end
end Go.Am
/- The abstract machine: an operation on scalars whose run is known by a law of its own. -/
namespace Go.Am
def scalEnv (ρ : Operand → Option V) : Operand → Value := fun x => match ρ x with
  | some v => match v.scal with
    | some y => y
    | none => Go.undef
  | none => Go.undef
def allScal (ρ : Operand → Option V) (l : List Operand) : Bool := l.all fun x => match ρ x with
  | some v => v.scal.isSome
  | none => false
theorem rrun_sound {P : Program} {κ : K} {w : World} {ρ : Operand → Option V} {η : Operand → Value} {o : Oper} {v : V} {y : Value} (hρ : ∀ x v, ρ x = some v → RV κ w v (η x)) (hsel : isSelect o.op = false)
    (hall : allScal ρ o.op.operands.toList = true) (hrun : ∀ w, (execOp (scalEnv ρ) o).run P w = .ok (.value y) w) (hv : ofValue y = some v) :
    (execOp η o).run P w = .ok (.value y) w ∧ RV κ w v y ∧ ∀ L, v.under L = true := by
  obtain ⟨h1, h2⟩ := ofValue_sound (κ := κ) (w := w) hv
  refine ⟨?_, h1, h2⟩
  rw [← hrun w]
  congr 1
  simp only [allScal, List.all_eq_true] at hall
  refine execOp_congr o (fun cs b e => by rw [e] at hsel; simp [isSelect] at hsel) fun x hx => ?_
  have := hall x (by simpa using hx)
  unfold scalEnv
  cases hv : ρ x with
  | none => simp [hv] at this
  | some v =>
    simp only [hv] at this ⊢
    cases hs : v.scal with
    | none => simp [hs] at this
    | some z => exact scal_sound hs (hρ x v hv)
section
variable {C : Cx} {all l : List Oper} {k : Nat} {e : Env} {σ : St} {o : Oper} {acc : List Rec} {Q : Env → St → Prop}
theorem Valid.run [HasGlob] (ho : all.toArray[k]? = some o) (hg : guardOk e all o = some true) (hd : dstOk C.n o = true) (hsel : isSelect o.op = false) (hall : allScal (ev (opEnv e o)) o.op.operands.toList = true)
    {v : V} {y : Value} (hrun : ∀ w, (execOp (scalEnv (ev (opEnv e o))) o).run C.P w = .ok (.value y) w) (hv : ofValue y = some v) :
    Valid C all.toArray k ⟨o.dst, v, [], reads all o, [], [], []⟩ e σ := by
  intro e2 σ2 hTm hF hlen hGr Q K2 κ w a hs hK
  have hg2 : guardOk e2 all o = some true := by rw [guardOk_congr fun t ht => hTm t (by simp [reads, ht])]; exact hg
  have he : opEnv e2 o = opEnv e o := slots_congr fun t ht => hTm t (by simp [reads, ht])
  obtain ⟨h1, h2, h3⟩ := rrun_sound (P := C.P) (κ := κ) (w := w) (ρ := ev (opEnv e2 o)) (η := a.eval) (fun x v hx => (ev_sound (hs.sub (slots_sub e2 _)) hx).1) hsel (by rw [he]; exact hall) (by rw [he]; exact hrun) hv
  unfold wpOp
  simp only [ho, guard_sound (ops := all.toArray) hs (by simpa using hg2), if_true]
  left
  unfold Oper.wp
  rw [h1]
  exact hK κ w _ .refl (hs.put ⟨fun _ _ h => h, fun _ _ _ => rfl, fun _ _ => rfl, fun _ _ _ _ _ h => h⟩ (fun _ h => h) hs.rs h2 (h3 _) (dstOk_spec hd))
/-- a comparison whose run is known -/
theorem DL.r' [HasGlob] (hg : guardOk e all o = some true) (hd : dstOk C.n o = true) (hsel : isSelect o.op = false) (hall : allScal (ev (opEnv e o)) o.op.operands.toList = true)
    {v : V} {y : Value} (hrun : ∀ w, (execOp (scalEnv (ev (opEnv e o))) o).run C.P w = .ok (.value y) w) (hv : ofValue y = some v) {T : List Nat} (hT' : fL (reads all o) = some T) {e' : Env} (he : nput e o.dst v = some e')
    (h : DL C all l (k + 1) e' σ (⟨o.dst, .undef, [], T, [], [], []⟩ :: acc) Q) : DL C all (o :: l) k e σ acc Q := by
  rw [nput_eq] at he; injection he with he; subst he
  rw [fL_eq] at hT'; injection hT' with hT'; subst hT'
  intro hall'
  exact (DL.cons (r := ⟨o.dst, v, [], reads all o, [], [], []⟩) rfl (Valid.run (head_of hall') hg hd hsel hall hrun hv) h) hall'
theorem WL.r' [HasGlob] (hg : guardOk e all o = some true) (hd : dstOk C.n o = true) (hsel : isSelect o.op = false) (hall : allScal (ev (opEnv e o)) o.op.operands.toList = true)
    {v : V} {y : Value} (hrun : ∀ w, (execOp (scalEnv (ev (opEnv e o))) o).run C.P w = .ok (.value y) w) (hv : ofValue y = some v) {e' : Env} (he : nput e o.dst v = some e')
    (h : WL C all l (k + 1) e' σ Q) : WL C all (o :: l) k e σ Q := by
  rw [nput_eq] at he; injection he with he; subst he
  intro hall' κ w a hs
  obtain ⟨h1, h2, h3⟩ := rrun_sound (P := C.P) (κ := κ) (w := w) (ρ := ev (opEnv e o)) (η := a.eval) (fun x v hx => (ev_sound (hs.sub (slots_sub e _)) hx).1) hsel hall hrun hv
  show wpOps C.P all.toArray _ (k :: idxs l (k + 1)) a w
  simp only [wpOps, head_of hall', guard_sound (ops := all.toArray) hs (by simpa using hg), if_true]
  left
  unfold Oper.wp
  rw [h1]
  exact WO.later .refl (WL.tail hall' h) (hs.put ⟨fun _ _ h => h, fun _ _ _ => rfl, fun _ _ => rfl, fun _ _ _ _ _ h => h⟩ (fun _ h => h) hs.rs h2 (h3 _) (dstOk_spec hd))
end
end Go.Am
/- The abstract machine: operations whose run is known by a law of their own: division, floating-point numbers. -/
namespace Go.Am
section
variable {P : Program} {ρ : Operand → Option V} {o : Oper}
theorem scalEnv_of {x : Operand} {v : V} {y : Value} (h : ρ x = some v) (hs : v.scal = some y) : scalEnv ρ x = y := by
  unfold scalEnv; simp only [h, hs]
theorem rv_rem {t t' : TypeId} {x y : Operand} {k : IntKind} {a b : Int} (ho : o.op = .binOp .rem t x y t') (hx : ρ x = some (.one (.d (.sc (.int k a))))) (hy : ρ y = some (.one (.d (.sc (.int k b))))) (hb : b ≠ 0) (w : World) :
    (execOp (scalEnv ρ) o).run P w = .ok (.value (.int k (a.tmod b))) w := by
  unfold execOp
  simp only [ho, scalEnv_of hx rfl, scalEnv_of hy rfl]
  simp [eqGuard, binOp, Op.intDiv, hb]
theorem rv_quo {t t' : TypeId} {x y : Operand} {k : IntKind} {a b : Int} (ho : o.op = .binOp .quo t x y t') (hx : ρ x = some (.one (.d (.sc (.int k a))))) (hy : ρ y = some (.one (.d (.sc (.int k b))))) (hb : b ≠ 0) (w : World) :
    (execOp (scalEnv ρ) o).run P w = .ok (.value (.int k (k.wrap (a.tdiv b)))) w := by
  unfold execOp
  simp only [ho, scalEnv_of hx rfl, scalEnv_of hy rfl]
  simp [eqGuard, binOp, Op.intDiv, hb]
theorem rv_shl {t t' : TypeId} {x y : Operand} {k yk : IntKind} {a b : Int} (ho : o.op = .binOp .shl t x y t') (hx : ρ x = some (.one (.d (.sc (.int k a))))) (hy : ρ y = some (.one (.d (.sc (.int yk b))))) (hb : ¬ b < 0) (w : World) :
    (execOp (scalEnv ρ) o).run P w = .ok (.value (.int k (k.wrap (a * 2 ^ min b.toNat k.bits)))) w := by
  unfold execOp
  simp only [ho, scalEnv_of hx rfl, scalEnv_of hy rfl]
  simp [eqGuard, binOp, Op.shift, hb]
theorem rv_shr {t t' : TypeId} {x y : Operand} {k yk : IntKind} {a b : Int} (ho : o.op = .binOp .shr t x y t') (hx : ρ x = some (.one (.d (.sc (.int k a))))) (hy : ρ y = some (.one (.d (.sc (.int yk b))))) (hb : ¬ b < 0) (w : World) :
    (execOp (scalEnv ρ) o).run P w = .ok (.value (.int k (a.fdiv (2 ^ min b.toNat k.bits)))) w := by
  unfold execOp
  simp only [ho, scalEnv_of hx rfl, scalEnv_of hy rfl]
  simp [eqGuard, binOp, Op.shift, hb]
theorem rv_fadd {t t' : TypeId} {x y : Operand} {p q a b : Nat} (ho : o.op = .binOp .add t x y t') (hx : ρ x = some (.one (.d (.sc (.float .f64 p))))) (hy : ρ y = some (.one (.d (.sc (.float .f64 q))))) (hp : p = F a) (hq : q = F b) (hb : a + b < 2 ^ 53) (w : World) :
    (execOp (scalEnv ρ) o).run P w = .ok (.value (.float .f64 (F (a + b)))) w := by
  subst hp; subst hq
  unfold execOp
  simp only [ho, scalEnv_of hx rfl, scalEnv_of hy rfl]
  have : FloatKind.f64.format.add (F a) (F b) = some (F (a + b)) := add_F hb
  simp [eqGuard, binOp, Op.floatArith, this]
theorem rv_fsub {t t' : TypeId} {x y : Operand} {p q a b : Nat} (ho : o.op = .binOp .sub t x y t') (hx : ρ x = some (.one (.d (.sc (.float .f64 p))))) (hy : ρ y = some (.one (.d (.sc (.float .f64 q))))) (hp : p = F a) (hq : q = F b) (ha : a < 2 ^ 53) (hb : b ≤ a) (w : World) :
    (execOp (scalEnv ρ) o).run P w = .ok (.value (.float .f64 (F (a - b)))) w := by
  subst hp; subst hq
  unfold execOp
  simp only [ho, scalEnv_of hx rfl, scalEnv_of hy rfl]
  have : FloatKind.f64.format.sub (F a) (F b) = some (F (a - b)) := sub_F ha hb
  simp [eqGuard, binOp, Op.floatArith, this]
theorem rv_cvf {T : Tab} (hT : T.fits P) {src dst : TypeId} {u : TypeDesc} {x : Operand} {k : IntKind} {n : Int} (ho : o.op = .convert src dst x) (hs : T.und src = some u) (hd : T.und dst = some (.float .f64)) (hx : ρ x = some (.one (.d (.sc (.int k n))))) (hn : 0 ≤ n) (w : World) :
    (execOp (scalEnv ρ) o).run P w = .ok (.value (.float .f64 (F n.toNat))) w := by
  unfold execOp
  simp only [ho, scalEnv_of hx rfl]
  have e : FloatKind.f64.nearest n = F n.toNat := by
    have := nearest_F n.toNat
    rwa [Int.toNat_of_nonneg hn] at this
  have hc : (convert src dst (.int k n)).run P w = .ok (.float .f64 (F n.toNat)) w := by
    unfold convert
    rw [run_bind (run_underlying hT hs), run_bind (run_underlying hT hd), ← e]
    cases u <;> rfl
  exact (run_bind hc).trans rfl
theorem rv_real {x : Operand} {ts : Array TypeId} {p q : Nat} (ho : o.op = .call { callee := .builtin .real, args := #[x], argTypes := ts }) (hx : ρ x = some (.one (.d (.sc (.complex .f64 p q))))) (w : World) :
    (execOp (scalEnv ρ) o).run P w = .ok (.value (.float .f64 p)) w := by
  unfold execOp
  simp only [ho]
  have h : ∀ ty, Builtin.real_ ts ty #[Value.complex .f64 p q] = pure (.float .f64 p) := fun _ => rfl
  simp [resolve, scalEnv_of hx rfl, invoke, builtin, h]
theorem rv_imag {x : Operand} {ts : Array TypeId} {p q : Nat} (ho : o.op = .call { callee := .builtin .imag, args := #[x], argTypes := ts }) (hx : ρ x = some (.one (.d (.sc (.complex .f64 p q))))) (w : World) :
    (execOp (scalEnv ρ) o).run P w = .ok (.value (.float .f64 q)) w := by
  unfold execOp
  simp only [ho]
  have h : ∀ ty, Builtin.imag_ ts ty #[Value.complex .f64 p q] = pure (.float .f64 q) := fun _ => rfl
  simp [resolve, scalEnv_of hx rfl, invoke, builtin, h]
theorem rv_complex {x y : Operand} {ts : Array TypeId} {p q : Nat} (ho : o.op = .call { callee := .builtin .complex, args := #[x, y], argTypes := ts }) (hx : ρ x = some (.one (.d (.sc (.float .f64 p))))) (hy : ρ y = some (.one (.d (.sc (.float .f64 q))))) (w : World) :
    (execOp (scalEnv ρ) o).run P w = .ok (.value (.complex .f64 p q)) w := by
  unfold execOp
  simp only [ho]
  have h : ∀ ty, Builtin.complex_ ts ty #[Value.float .f64 p, Value.float .f64 q] = pure (.complex .f64 p q) := fun _ => rfl
  simp [resolve, scalEnv_of hx rfl, scalEnv_of hy rfl, invoke, builtin, h]
end
section
variable {C : Cx} {all l : List Oper} {k : Nat} {e : Env} {σ : St} {o : Oper} {acc : List Rec} {Q : Env → St → Prop}
/-- an operation whose value is known by a law of its own -/
theorem lV [HasGlob] (hT : C.T.fits C.P) {v : V} {y : Value} {e' : Env} (h : WL C all l (k + 1) e' σ Q) (hg : guardOk e all o = some true := by rfl) (hd : dstOk C.n o = true := by rfl)
    (hsel : isSelect o.op = false := by rfl) (hall : allScal (ev (opEnv e o)) o.op.operands.toList = true := by rfl)
    (hrun : ∀ w, (execOp (scalEnv (ev (opEnv e o))) o).run C.P w = .ok (.value y) w := by
      first
        | exact rv_rem rfl rfl rfl (by first | assumption | omega)
        | exact rv_quo rfl rfl rfl (by first | assumption | omega)
        | exact rv_shr rfl rfl rfl (by first | assumption | omega)
        | exact rv_shl rfl rfl rfl (by first | assumption | omega)
        | exact rv_fadd rfl rfl rfl (by first | rfl | exact F_one.symm | exact F_zero.symm | exact nearest_F _) (by first | rfl | exact F_one.symm | exact F_zero.symm | exact nearest_F _) (by first | assumption | omega)
        | exact rv_fsub rfl rfl rfl (by first | rfl | exact F_one.symm | exact F_zero.symm | exact nearest_F _) (by first | rfl | exact F_one.symm | exact F_zero.symm | exact nearest_F _) (by first | assumption | omega) (by first | assumption | omega)
        | exact rv_real rfl rfl
        | exact rv_imag rfl rfl
        | exact rv_complex rfl rfl rfl
        | exact rv_cvf (by assumption) rfl rfl rfl rfl (by first | assumption | omega))
    (hv : ofValue y = some v := by rfl) (he : nput e o.dst v = some e' := by rfl) : WL C all (o :: l) k e σ Q := WL.r' hg hd hsel hall hrun hv he h
/-- an operation whose value is known by a law of its own -/
theorem dV [HasGlob] (hT : C.T.fits C.P) {v : V} {y : Value} {e' : Env} {T : List Nat} (h : DL C all l (k + 1) e' σ (⟨o.dst, .undef, [], T, [], [], []⟩ :: acc) Q) (hg : guardOk e all o = some true := by rfl) (hd : dstOk C.n o = true := by rfl)
    (hsel : isSelect o.op = false := by rfl) (hall : allScal (ev (opEnv e o)) o.op.operands.toList = true := by rfl)
    (hrun : ∀ w, (execOp (scalEnv (ev (opEnv e o))) o).run C.P w = .ok (.value y) w := by
      first
        | exact rv_rem rfl rfl rfl (by first | assumption | omega)
        | exact rv_quo rfl rfl rfl (by first | assumption | omega)
        | exact rv_shr rfl rfl rfl (by first | assumption | omega)
        | exact rv_shl rfl rfl rfl (by first | assumption | omega)
        | exact rv_fadd rfl rfl rfl (by first | rfl | exact F_one.symm | exact F_zero.symm | exact nearest_F _) (by first | rfl | exact F_one.symm | exact F_zero.symm | exact nearest_F _) (by first | assumption | omega)
        | exact rv_fsub rfl rfl rfl (by first | rfl | exact F_one.symm | exact F_zero.symm | exact nearest_F _) (by first | rfl | exact F_one.symm | exact F_zero.symm | exact nearest_F _) (by first | assumption | omega) (by first | assumption | omega)
        | exact rv_real rfl rfl
        | exact rv_imag rfl rfl
        | exact rv_complex rfl rfl rfl
        | exact rv_cvf (by assumption) rfl rfl rfl rfl (by first | assumption | omega))
    (hv : ofValue y = some v := by rfl) (hT' : fL (reads all o) = some T := by rfl) (he : nput e o.dst v = some e' := by rfl) : DL C all (o :: l) k e σ acc Q := DL.r' hg hd hsel hall hrun hv hT' he h
end
section
variable {C : Cx} {all l : List Oper} {k : Nat} {e : Env} {σ : St} {o : Oper} {acc : List Rec} {Q : Env → St → Prop}
theorem aop_kz [HasGlob] {nid : Nat} {t : TypeId} {x : Operand} {lo hi : Option Operand} {s : ByteArray} {a b : Option Int} (ho : o.op = .slice t x lo hi none) (ht : C.T.und t = some .string) (hx : ev (opEnv e o) x = some (.one (.d (.sc (.string s)))))
    (hlo : bound (ev (opEnv e o)) lo = some a) (hhi : bound (ev (opEnv e o)) hi = some b) (h0 : 0 ≤ a.getD 0) (h1 : a.getD 0 ≤ b.getD s.size) (h2 : b.getD s.size ≤ s.size) :
    aop C nid e σ o = some (.one (.d (.sc (.string (s.extract (a.getD 0).toNat (b.getD s.size).toNat)))), []) := by
  unfold aop core
  rw [ho]
  simp only [hx, hlo, hhi, sliceOf, ht]
  rw [decide_eq_true h0, decide_eq_true h1, decide_eq_true h2]
  rfl
/-- a piece of a string -/
theorem lKz [HasGlob] (hT : C.T.fits C.P) {t : TypeId} {x : Operand} {lo hi : Option Operand} {s r : ByteArray} {a b : Option Int} {e' : Env} (h : WL C all l (k + 1) e' σ Q)
    (ho : o.op = .slice t x lo hi none := by rfl) (hg : guardOk e all o = some true := by rfl) (hd : dstOk C.n o = true := by rfl) (ht : C.T.und t = some .string := by rfl) (hx : ev (opEnv e o) x = some (.one (.d (.sc (.string s)))) := by rfl)
    (hlo : bound (ev (opEnv e o)) lo = some a := by rfl) (hhi : bound (ev (opEnv e o)) hi = some b := by rfl) (h0 : 0 ≤ a.getD 0 := by simp only [Option.getD]; first | omega | assumption) (h1 : a.getD 0 ≤ b.getD s.size := by simp only [Option.getD]; first | omega | assumption) (h2 : b.getD s.size ≤ s.size := by simp only [Option.getD]; first | omega | assumption)
    (hr : s.extract (a.getD 0).toNat (b.getD s.size).toNat = r := by first | assumption | (simp only [Option.getD]; rfl)) (he : nput e o.dst (.one (.d (.sc (.string r)))) = some e' := by rfl) : WL C all (o :: l) k e σ Q := by
  subst hr
  have hm : makes C o = false := by unfold makes; rw [ho]
  exact WL.q' hT hg hd hm (aop_kz ho ht hx hlo hhi h0 h1 h2) (fV_eq _) he h
theorem dKz [HasGlob] (hT : C.T.fits C.P) {t : TypeId} {x : Operand} {lo hi : Option Operand} {s r : ByteArray} {a b : Option Int} {e' : Env} {T F : List Nat} (h : DL C all l (k + 1) e' σ (⟨o.dst, .undef, [], T, F, [], []⟩ :: acc) Q)
    (ho : o.op = .slice t x lo hi none := by rfl) (hg : guardOk e all o = some true := by rfl) (hd : dstOk C.n o = true := by rfl) (ht : C.T.und t = some .string := by rfl) (hx : ev (opEnv e o) x = some (.one (.d (.sc (.string s)))) := by rfl)
    (hlo : bound (ev (opEnv e o)) lo = some a := by rfl) (hhi : bound (ev (opEnv e o)) hi = some b := by rfl) (h0 : 0 ≤ a.getD 0 := by simp only [Option.getD]; first | omega | assumption) (h1 : a.getD 0 ≤ b.getD s.size := by simp only [Option.getD]; first | omega | assumption) (h2 : b.getD s.size ≤ s.size := by simp only [Option.getD]; first | omega | assumption)
    (hr : s.extract (a.getD 0).toNat (b.getD s.size).toNat = r := by first | assumption | (simp only [Option.getD]; rfl)) (hT' : fL (reads all o) = some T := by rfl) (hF' : fL (foot (opEnv e o) o) = some F := by rfl) (he : nput e o.dst (.one (.d (.sc (.string r)))) = some e' := by rfl) : DL C all (o :: l) k e σ acc Q := by
  subst hr
  have hm : makes C o = false := by unfold makes; rw [ho]
  exact DL.q' hT hg hd hm (aop_kz ho ht hx hlo hhi h0 h1 h2) (fV_eq _) hT' hF' he h
end
/-! room for what a call makes -/
/-- a function that makes objects may lay the first of them into places that are free -/
theorem Spec.dead [HasGlob] {P : Program} {f : FuncId} {args : List V} {R : V → St → Prop} (n : Nat) (h : Spec P f args [] R) (hni : args.all noIds = true) (hlen : ∀ v s, R v s → n ≤ s.length) : Spec P f args (List.replicate n .dead) R := by
  refine ⟨h.1, fun κ w xs hR hx => ?_⟩
  have hdead : ∀ id, alive (List.replicate n Ob.dead) id = false := by
    intro id
    cases h : alive (List.replicate n Ob.dead) id with
    | false => rfl
    | true =>
      obtain ⟨o, h1, h2⟩ := alive_iff.1 h
      have := List.mem_of_getElem? h1
      rw [List.mem_replicate] at this
      exact absurd this.2 h2
  have hbare : Stays κ w κ.bare w (fun _ => false) := ⟨fun _ _ h => h, fun _ _ _ => rfl, fun _ h => by simp at h, fun _ _ _ _ h => by simp at h⟩
  have hxs := hx.stays hbare fun v hv => List.all_eq_true.1 hni v hv
  have hal : alive ([] : St) = fun _ => false := funext fun id => by simp [alive]
  refine (h.2 κ.bare w xs hR.bare (by rw [hal]; exact hxs)).mono fun en w' ⟨x, r, κ', σ', g1, g2, g3, g4, g5, g6⟩ => ?_
  have hown : ∀ (κ0 : K) b, ¬ own κ0 (List.replicate n Ob.dead) b := by
    rintro κ0 b ⟨id, o, h1, h2⟩
    have := List.mem_of_getElem? h1
    rw [List.mem_replicate] at this
    rw [this.2] at h2; simp [blockOf] at h2
  have hown0 : ∀ (κ0 : K) b, ¬ own κ0 ([] : St) b := by
    rintro κ0 b ⟨id, o, h1, h2⟩
    simp at h1
  refine ⟨x, r, κ', σ', g1, g2, g3, g4, ⟨g5.S, g5.keep, fun id h => ?_, fun id _ _ _ h => ?_, fun id h => ?_, fun b o h => ?_, fun b hb _ => g5.frame b hb (hown0 _ b), fun b hb => ?_, g5.size, g5.os, g5.tape, g5.output, ?_⟩, g6⟩
  · rw [hdead] at h; simp at h
  · rw [hdead] at h; simp at h
  · rw [hdead] at h; simp at h
  · rcases g5.fresh b o h with h1 | h1 | h1
    · exact .inl h1
    · exact absurd h1 (hown0 _ b)
    · exact .inr (.inr h1)
  · rcases g5.owned b hb with h1 | h1
    · exact absurd h1 (hown0 _ b)
    · exact .inr h1
  · simpa using hlen r σ' g2
/-- one more free place -/
theorem gRoom [HasGlob] {C : Cx} {c : Code} {e : Env} {σ σ' : St} {Q : Ex → Env → St → Prop} (h : W C c e σ' Q) (hσ : fS (σ ++ [.dead]) = some σ' := by rfl) : W C c e σ Q := by
  rw [fS_eq] at hσ; injection hσ with hσ; subst hσ
  exact fun κ w a hs => W.later Evo.room h hs.room
section
variable {C : Cx} {all l : List Oper} {k : Nat} {e : Env} {σ : St} {o : Oper} {acc : List Rec} {Q : Env → St → Prop}
/-- a call that hands on the first objects, under their own names, in a drawn region -/
theorem DL.crG [HasGlob] (r : List Nat) (σ0 τ : St) (vs0 : List V) {f : FuncId} {vs : List V} {ret : V} {σ1 : St} {e' : Env} {T F : List Nat} (hS : Spec C.P f vs0 σ0 (fun x s => x = ret ∧ s = σ1)) (h : DL C all l (k + 1) e' (σ1 ++ τ) (⟨o.dst, .undef, r.map fun i => (i, .dead), T, F, [], []⟩ :: acc) Q)
    (hσ0 : (σ0.all fun o => o.under (alive σ0)) = true) (hσ1 : (σ1.all fun o => o.under (inR r)) = true) (hc : calleeOf (opEnv e o) o = some (f, vs) := by rfl)
    (hr : r = List.range' 0 σ0.length := by rfl) (hl1 : σ1.length = σ0.length := by rfl) (hσ : σ = σ0 ++ τ := by rfl)
    (hret : ret.under (inR r) = true := by rfl) (hvs : (vs0.all fun v => v.under (alive σ0) && v.under (inR r)) = true := by rfl) (hg : guardOk e all o = some true := by rfl) (hd : dstOk C.n o = true := by rfl)
    (hh : Hands r (inFoot (r ++ foot (opEnv e o) o) σ) vs vs0) (hT' : fL (reads all o) = some T := by rfl) (hF' : fL (r ++ foot (opEnv e o) o) = some F := by rfl) (he : nput e o.dst ret = some e' := by rfl) : DL C all (o :: l) k e σ acc Q := by
  have hlen : r.length = σ0.length := by rw [hr]; simp
  have hid : ∀ i, inR r i = true → rn r i = i := by
    intro i hi
    rw [inR_lt, hlen] at hi
    rw [hr, rn_range _ _ _ hi]; omega
  have hin : (σ0.all fun o => o.under (inR r)) = true := by
    simp only [List.all_eq_true] at hσ0 ⊢
    intro o ho
    exact Ob.under_mono (fun i hi => inR_lt.2 (by rw [hlen]; exact alive_lt hi)) (hσ0 o ho)
  have hnd : nodup r = true := by
    have h1 : r.Nodup := by rw [hr]; exact List.nodup_range'
    have : ∀ {r : List Nat}, r.Nodup → nodup r = true := by
      intro r hr
      induction r with
      | nil => rfl
      | cons x r ih =>
        rw [List.nodup_cons] at hr
        simp only [nodup, ih hr.2, Bool.and_true, Bool.not_eq_true']
        rw [Bool.eq_false_iff]
        intro hx; exact hr.1 (by simpa using hx)
    exact this h1
  have hvs1 : rnVs r vs0 = vs0 := rnVs_same hid fun v hv => by
    have := List.all_eq_true.1 hvs v hv
    rw [Bool.and_eq_true] at this; exact this.2
  have hall : allIds σ r σ1 = r := by rw [allIds, List.drop_eq_nil_of_le (by omega)]; simp [newIds]
  have hm : merge σ r σ1 = σ1 ++ τ := by
    rw [merge, hall, hσ]
    have := setAll_pre (R := r) σ1 [] σ0 τ hl1.symm fun o ho => rnO_same hid (List.all_eq_true.1 hσ1 o ho)
    simp only [List.nil_append, List.length_nil] at this
    rw [show List.range' 0 σ1.length = r by rw [hl1, hr]] at this
    exact this
  have hup : σ.upd (zipU r (rnS r σ1)) = σ1 ++ τ := by
    rw [← hm, merge, hall]
    exact (setAll_upd r σ r σ1 (by omega)).symm
  refine DL.crH r σ0 vs0 hS hg hd hc (by rw [hvs1]; exact hh) hnd (fits_of hlen.symm fun i o ho => ?_) ?_ (by omega) (v' := ret) (σ' := σ1 ++ τ) ?_ ?_ hT' hF' he h
  · have hi : i < σ0.length := (List.getElem?_eq_some_iff.1 ho).1
    rw [hid i (inR_lt.2 (by omega)), rnO_same hid (List.all_eq_true.1 hin o (List.mem_of_getElem? ho)), hσ, List.getElem?_append_left hi]
    exact ho
  · simp only [closed, inS, hin, hσ0, hvs, Bool.and_self]
  · rw [fV_eq, rnV_same hid hret]
  · rw [fS_eq, hup]
theorem DL.crp [HasGlob] (r : List Nat) (σ0 τ : St) (vs0 : List V) {f : FuncId} {vs : List V} {ret : V} {σ1 : St} {e' : Env} {T F : List Nat} (hS : Spec C.P f vs0 σ0 (fun x s => x = ret ∧ s = σ1)) (h : DL C all l (k + 1) e' (σ1 ++ τ) (⟨o.dst, .undef, r.map fun i => (i, .dead), T, F, [], []⟩ :: acc) Q)
    (hσ0 : (σ0.all fun o => o.under (alive σ0)) = true) (hσ1 : (σ1.all fun o => o.under (inR r)) = true) (hc : calleeOf (opEnv e o) o = some (f, vs) := by rfl)
    (hr : r = List.range' 0 σ0.length := by rfl) (hl1 : σ1.length = σ0.length := by rfl) (hσ : σ = σ0 ++ τ := by rfl)
    (hret : ret.under (inR r) = true := by rfl) (hvs : (vs0.all fun v => v.under (alive σ0) && v.under (inR r)) = true := by rfl) (hg : guardOk e all o = some true := by rfl) (hd : dstOk C.n o = true := by rfl)
    (hh : handVs r (inFoot (r ++ foot (opEnv e o) o) σ) vs = some vs0 := by rfl) (hT' : fL (reads all o) = some T := by rfl) (hF' : fL (r ++ foot (opEnv e o) o) = some F := by rfl) (he : nput e o.dst ret = some e' := by rfl) : DL C all (o :: l) k e σ acc Q :=
  DL.crG r σ0 τ vs0 hS h hσ0 hσ1 hc hr hl1 hσ hret hvs hg hd (.inl hh) hT' hF' he
end
end Go.Am
