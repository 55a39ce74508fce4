/- The abstract machine: many steps at once: what needs no word of its own is run by a function; its soundness. -/
import Derived.Test.YtfbocpbeogkapaaAmGo
set_option linter.unusedVariables false
set_option linter.unusedSimpArgs false
namespace Go.Am

/-- what waits behind a piece of code -/
inductive Fr where
  | seq (c : Code)
  | blk (id : Nat)
/-- a place in a function's run -/
inductive Pt where
  | code (c : Code) (s : List Fr) (e : Env) (σ : St)
  | ops (all l : List Oper) (s : List Fr) (e : Env) (σ : St)
  | drw (all l : List Oper) (acc : List Rec) (s : List Fr) (e : Env) (σ : St)
  | val (ex : Ex) (s : List Fr) (e : Env) (σ : St)
inductive Out where
  | stuck
  | next (p : Pt)
  | split (b : Bool) (p q : Pt)
  | done (ex : Ex) (e : Env) (σ : St)

/-- operations that are left to rules of their own -/
def isHard (T : Tab) (o : Oper) : Bool :=
  match o.op with
  | .indexAddr t _ _ => match T.und t with
    | some (.slice _) => true
    | _ => false
  | .index t _ _ => match T.und t with
    | some .string => true
    | _ => false
  | .binOp .add t _ _ _ => match T.und t with
    | some .string => true
    | _ => false
  | .slice _ _ _ _ _ | .lookup _ _ _ _ | .mapUpdate _ _ _ _ | .makeSlice _ _ _ => true
  | .convert a b _ => match T.und a, T.und b with
    | some (.int _), some (.int _) => false
    | _, _ => true
  | .call { callee := .value _, args := _, argTypes := _ } | .call { callee := .invoke _ _, args := _, argTypes := _ } => true
  | .call { callee := .builtin .append, args := _, argTypes := _ } | .call { callee := .builtin .delete, args := _, argTypes := _ } => true
  | _ => false

/-- a value worked out; the rows of a slice that is written out, too -/
def fVb (o : Oper) (v : V) : Option V :=
  match isBuildSlice o with
  | true => match v with
    | .one (.d (.list rows)) => match fLL rows with
      | some rows => some (.one (.d (.list rows)))
      | none => none
    | v => fV v
  | false => fV v
theorem fVb_eq (o : Oper) (v : V) : fVb o v = some v := by
  unfold fVb
  split
  · split
    · simp [fLL_eq]
    · exact fV_eq v
  · exact fV_eq v

def opQuiet (C : Cx) (all l : List Oper) (s : List Fr) (e : Env) (σ : St) (o : Oper) : V × Upd → Out
  | (v, u) => match isBoolish C.T o with
    | true => match v, u with
      | .one (.d (.sc (.bool b))), [] => match nput e o.dst (bool true), nput e o.dst (bool false) with
        | some e1, some e2 => .split b (.ops all l s e1 σ) (.ops all l s e2 σ)
        | _, _ => .stuck
      | _, _ => .stuck
    | false => match fVb o v with
      | some v' => match nput e o.dst v' with
        | some e' => match u with
          | [] => .next (.ops all l s e' σ)
          | p :: u => match fS (σ.upd (p :: u)) with
            | some σ' => .next (.ops all l s e' σ')
            | none => .stuck
        | none => .stuck
      | none => .stuck
def opStep (C : Cx) (all l : List Oper) (s : List Fr) (e : Env) (σ : St) (o : Oper) : Out :=
  match makes C o with
  | true => match fNat σ.length with
    | some nid => match aop C nid e (σ ++ [.dead]) o with
      | some (v, u) => match fV v, fS (St.upd (σ ++ [.dead]) u) with
        | some v', some σ' => match nput e o.dst v' with
          | some e' => .next (.ops all l s e' σ')
          | none => .stuck
        | _, _ => .stuck
      | none => .stuck
    | none => .stuck
  | false => match aop C 0 e σ o with
    | some r => opQuiet C all l s e σ o r
    | none => .stuck

def drQuiet (C : Cx) (all l : List Oper) (acc : List Rec) (s : List Fr) (e : Env) (σ : St) (o : Oper) (T F : List Nat) : V × Upd → Out
  | (v, u) => match isBoolish C.T o with
    | true => match v, u with
      | .one (.d (.sc (.bool b))), [] => match nput e o.dst (bool true), nput e o.dst (bool false) with
        | some e1, some e2 => .split b (.drw all l (⟨o.dst, .undef, [], T, F⟩ :: acc) s e1 σ) (.drw all l (⟨o.dst, .undef, [], T, F⟩ :: acc) s e2 σ)
        | _, _ => .stuck
      | _, _ => .stuck
    | false => match fVb o v with
      | some v' => match nput e o.dst v' with
        | some e' => match u with
          | [] => .next (.drw all l (⟨o.dst, .undef, [], T, F⟩ :: acc) s e' σ)
          | p :: u => match fS (σ.upd (p :: u)), fL ((p :: u).map (·.1)) with
            | some σ', some ws => .next (.drw all l (⟨o.dst, .undef, ws.map fun i => (i, .dead), T, F⟩ :: acc) s e' σ')
            | _, _ => .stuck
        | none => .stuck
      | none => .stuck
def drMake (C : Cx) (all l : List Oper) (acc : List Rec) (s : List Fr) (e : Env) (σ : St) (o : Oper) (T F : List Nat) : Out :=
  match fdead σ 0 with
  | some nid => match aop C nid e σ o with
    | some (v, p :: u) => match fV v, fS (σ.upd (p :: u)), fL ((p :: u).map (·.1)) with
      | some v', some σ', some ws => match ws.elem nid with
        | true => match nput e o.dst v' with
          | some e' => .next (.drw all l (⟨o.dst, .undef, ws.map fun i => (i, .dead), T, F⟩ :: acc) s e' σ')
          | none => .stuck
        | false => .stuck
      | _, _, _ => .stuck
    | _ => .stuck
  | none => .stuck
def drStep (C : Cx) (all l : List Oper) (acc : List Rec) (s : List Fr) (e : Env) (σ : St) (o : Oper) : Out :=
  match fL (reads all o), fL (foot (opEnv e o) o) with
  | some T, some F => match makes C o with
    | true => drMake C all l acc s e σ o T F
    | false => match aop C 0 e σ o with
      | some r => drQuiet C all l acc s e σ o T F r
      | none => .stuck
  | _, _ => .stuck

def step (C : Cx) : Pt → Out
  | .code c s e σ => match c with
    | .skip => .next (.val .normal s e σ)
    | .seq a b => .next (.code a (.seq b :: s) e σ)
    | .cond c x y => match ev e c with
      | some (.one (.d (.sc (.bool t)))) => match t with
        | true => .next (.code x s e σ)
        | false => .next (.code y s e σ)
      | _ => .stuck
    | .block id b => .next (.code b (.blk id :: s) e σ)
    | .ret => .next (.val .ret s e σ)
    | .exit id => .next (.val (.exit id) s e σ)
    | .region _ os false => .next (.ops os.toList os.toList s e σ)
    | .region _ os true => match backs os.toList 0 with
      | true => match fS (σ ++ deads (countMakes C os.toList)) with
        | some σ1 => .next (.drw os.toList os.toList [] s e σ1)
        | none => .stuck
      | false => .stuck
    | _ => .stuck
  | .val ex s e σ => match s with
    | [] => .done ex e σ
    | .seq c :: s => match ex with
      | .normal => .next (.code c s e σ)
      | .exit i => .next (.val (.exit i) s e σ)
      | .ret => .next (.val .ret s e σ)
    | .blk id :: s => match ex with
      | .normal => .next (.val .normal s e σ)
      | .ret => .next (.val .ret s e σ)
      | .exit i => match Nat.beq i id with
        | true => .next (.val .normal s e σ)
        | false => .next (.val (.exit i) s e σ)
  | .ops all l s e σ => match l with
    | [] => .next (.val .normal s e σ)
    | o :: l => match dstOk C.n o with
      | false => .stuck
      | true => match guardOk e all o with
        | some false => match nput e o.dst .undef with
          | some e' => .next (.ops all l s e' σ)
          | none => .stuck
        | some true => match isHard C.T o with
          | true => .stuck
          | false => opStep C all l s e σ o
        | none => .stuck
  | .drw all l acc s e σ => match l with
    | [] => match check all acc.reverse [] with
      | true => .next (.val .normal s e σ)
      | false => .stuck
    | o :: l => match dstOk C.n o with
      | false => .stuck
      | true => match guardOk e all o with
        | some false => match nput e o.dst .undef, fL (guardTmps all o) with
          | some e', some T => .next (.drw all l (⟨o.dst, .undef, [], T, []⟩ :: acc) s e' σ)
          | _, _ => .stuck
        | some true => match isHard C.T o with
          | true => .stuck
          | false => drStep C all l acc s e σ o
        | none => .stuck

def run (C : Cx) : Nat → Pt → Out
  | 0, p => .next p
  | n + 1, p => match step C p with
    | .stuck => .next p
    | .next q => run C n q
    | .split b q r => .split b q r
    | .done ex e σ => .done ex e σ
/-- a step at least -/
def runs (C : Cx) (n : Nat) (p : Pt) : Out :=
  match step C p with
  | .next q => run C n q
  | o => o

/-! soundness -/
def un (C : Cx) : List Fr → (Ex → Env → St → Prop) → Ex → Env → St → Prop
  | [], Q => Q
  | .seq c :: s, Q => next C c (un C s Q)
  | .blk id :: s, Q => leave id (un C s Q)
def Pt.ok (C : Cx) (Q : Ex → Env → St → Prop) : Pt → Prop
  | .code c s e σ => W C c e σ (un C s Q)
  | .ops all l s e σ => ∀ k, WL C all l k e σ fun e σ => un C s Q .normal e σ
  | .drw all l acc s e σ => ∀ k, DL C all l k e σ acc fun e σ => un C s Q .normal e σ
  | .val ex s e σ => un C s Q ex e σ
def Out.holds (C : Cx) (Q : Ex → Env → St → Prop) : Out → Prop
  | .stuck => False
  | .next p => p.ok C Q
  | .split b p q => (b = true → p.ok C Q) ∧ (b = false → q.ok C Q)
  | .done ex e σ => Q ex e σ

section
variable {C : Cx} {Q : Ex → Env → St → Prop}
theorem opQuiet_sound (hT : C.T.fits C.P) {all l : List Oper} {s : List Fr} {e : Env} {σ : St} {o : Oper} {r : V × Upd} (hg : guardOk e all o = some true) (hd : dstOk C.n o = true) (hm : makes C o = false) (hop : aop C 0 e σ o = some r)
    (h : (opQuiet C all l s e σ o r).holds C Q) : (Pt.ops all (o :: l) s e σ).ok C Q := by
  obtain ⟨v, u⟩ := r
  intro k
  unfold opQuiet at h
  simp only at h
  split at h
  · split at h
    · rename_i b
      split at h
      · rename_i e1 e2 he1 he2
        obtain ⟨h1, h2⟩ := h
        cases b with
        | true => exact WL.q' hT hg hd hm hop (fV_eq _) he1 (h1 rfl _)
        | false => exact WL.q' hT hg hd hm hop (fV_eq _) he2 (h2 rfl _)
      · exact h.elim
    · exact h.elim
  · split at h
    · rename_i v' hv
      rw [fVb_eq] at hv; injection hv with hv; subst hv
      split at h
      · rename_i e' he
        split at h
        · exact WL.q' hT hg hd hm hop (fV_eq _) he (h _)
        · split at h
          · rename_i σ' hσ
            exact WL.w' hT hg hd hm hop (fV_eq _) hσ he (h _)
          · exact h.elim
      · exact h.elim
    · exact h.elim
theorem opStep_sound (hT : C.T.fits C.P) {all l : List Oper} {s : List Fr} {e : Env} {σ : St} {o : Oper} (hg : guardOk e all o = some true) (hd : dstOk C.n o = true) (h : (opStep C all l s e σ o).holds C Q) : (Pt.ops all (o :: l) s e σ).ok C Q := by
  unfold opStep at h
  split at h
  · rename_i hm
    rw [fNat_eq] at h
    simp only at h
    split at h
    · rename_i v u hop
      split at h
      · rename_i v' σ' hv hσ
        split at h
        · rename_i e' he
          intro k
          exact WL.m' hm hT hg hd hop hv hσ he (h _)
        · exact h.elim
      · exact h.elim
    · exact h.elim
  · rename_i hm
    split at h
    · rename_i r hop
      exact opQuiet_sound hT hg hd hm hop h
    · exact h.elim
theorem drQuiet_sound (hT : C.T.fits C.P) {all l : List Oper} {acc : List Rec} {s : List Fr} {e : Env} {σ : St} {o : Oper} {T F : List Nat} {r : V × Upd} (hg : guardOk e all o = some true) (hd : dstOk C.n o = true) (hm : makes C o = false) (hop : aop C 0 e σ o = some r)
    (hT' : fL (reads all o) = some T) (hF' : fL (foot (opEnv e o) o) = some F) (h : (drQuiet C all l acc s e σ o T F r).holds C Q) : (Pt.drw all (o :: l) acc s e σ).ok C Q := by
  obtain ⟨v, u⟩ := r
  intro k
  unfold drQuiet at h
  simp only at h
  split at h
  · split at h
    · rename_i b
      split at h
      · rename_i e1 e2 he1 he2
        obtain ⟨h1, h2⟩ := h
        cases b with
        | true => exact DL.q' hT hg hd hm hop (fV_eq _) hT' hF' he1 (h1 rfl _)
        | false => exact DL.q' hT hg hd hm hop (fV_eq _) hT' hF' he2 (h2 rfl _)
      · exact h.elim
    · exact h.elim
  · split at h
    · rename_i v' hv
      rw [fVb_eq] at hv; injection hv with hv; subst hv
      split at h
      · rename_i e' he
        split at h
        · exact DL.q' hT hg hd hm hop (fV_eq _) hT' hF' he (h _)
        · split at h
          · rename_i σ' ws hσ hw
            exact DL.w' hT hg hd hm hop (fV_eq _) hσ hT' hF' hw he (h _)
          · exact h.elim
      · exact h.elim
    · exact h.elim
theorem drMake_sound (hT : C.T.fits C.P) {all l : List Oper} {acc : List Rec} {s : List Fr} {e : Env} {σ : St} {o : Oper} {T F : List Nat} (hg : guardOk e all o = some true) (hd : dstOk C.n o = true) (hm : makes C o = true)
    (hT' : fL (reads all o) = some T) (hF' : fL (foot (opEnv e o) o) = some F) (h : (drMake C all l acc s e σ o T F).holds C Q) : (Pt.drw all (o :: l) acc s e σ).ok C Q := by
  unfold drMake at h
  split at h
  · rename_i nid hn
    split at h
    · rename_i v p u hop
      split at h
      · rename_i v' σ' ws hv hσ hw
        split at h
        · rename_i hin
          split at h
          · rename_i e' he
            intro k
            exact DL.m' hm hT hg hd hn hop hv hσ hT' hF' hw hin he (h _)
          · exact h.elim
        · exact h.elim
      · exact h.elim
    · exact h.elim
  · exact h.elim
theorem drStep_sound (hT : C.T.fits C.P) {all l : List Oper} {acc : List Rec} {s : List Fr} {e : Env} {σ : St} {o : Oper} (hg : guardOk e all o = some true) (hd : dstOk C.n o = true) (h : (drStep C all l acc s e σ o).holds C Q) : (Pt.drw all (o :: l) acc s e σ).ok C Q := by
  unfold drStep at h
  split at h
  · rename_i T F hT' hF'
    split at h
    · rename_i hm
      exact drMake_sound hT hg hd hm hT' hF' h
    · rename_i hm
      split at h
      · rename_i r hop
        exact drQuiet_sound hT hg hd hm hop hT' hF' h
      · exact h.elim
  · exact h.elim

theorem step_sound (hT : C.T.fits C.P) (hmx : C.P.follows .mixedOrders = true) {p : Pt} (h : (step C p).holds C Q) : p.ok C Q := by
  cases p with
  | code c s e σ =>
    cases c with
    | skip => exact W.skip h
    | seq a b => exact W.seq h
    | cond c x y =>
      simp only [step] at h
      split at h
      · rename_i t hc
        cases t with
        | true => exact W.cond hc h
        | false => exact W.cond hc h
      · exact h.elim
    | block id b => exact W.block h
    | ret => exact W.ret h
    | exit id => exact W.exit h
    | region id os draw =>
      cases draw with
      | false =>
        have h' := h 0
        have := W.reg (C := C) (id := id) (all := os.toList) (Q := un C s Q) h'
        show W C (.region id os false) e σ (un C s Q)
        simpa using this
      | true =>
        simp only [step] at h
        split at h
        · rename_i hbk
          split at h
          · rename_i σ1 hσ
            have h' := h 0
            have := W.draw (C := C) (id := id) (all := os.toList) (Q := un C s Q) hmx hbk hσ h'
            show W C (.region id os true) e σ (un C s Q)
            simpa using this
          · exact h.elim
        · exact h.elim
    | _ => exact h.elim
  | val ex s e σ =>
    cases s with
    | nil => exact h
    | cons f s =>
      cases f with
      | seq c => cases ex <;> exact h
      | blk id =>
        cases ex with
        | normal => exact h
        | ret => exact h
        | exit i =>
          show leave id (un C s Q) (.exit i) e σ
          simp only [step] at h
          simp only [leave]
          split at h
          · rename_i hb; rw [hb]; exact h
          · rename_i hb; rw [hb]; exact h
  | ops all l s e σ =>
    cases l with
    | nil => exact fun k => WL.fin h
    | cons o l =>
      simp only [step] at h
      split at h
      · exact h.elim
      · rename_i hd
        split at h
        · rename_i hg
          split at h
          · rename_i e' he
            exact fun k => WL.skip' hg hd he (h _)
          · exact h.elim
        · rename_i hg
          split at h
          · exact h.elim
          · exact opStep_sound hT hg hd h
        · exact h.elim
  | drw all l acc s e σ =>
    cases l with
    | nil =>
      simp only [step] at h
      split at h
      · rename_i hck; exact fun k => DL.fin hck h
      · exact h.elim
    | cons o l =>
      simp only [step] at h
      split at h
      · exact h.elim
      · rename_i hd
        split at h
        · rename_i hg
          split at h
          · rename_i e' T he hT'
            intro k
            rw [nput_eq] at he; injection he with he; subst he
            exact DL.skip hg hd hT' (h _)
          · exact h.elim
        · rename_i hg
          split at h
          · exact h.elim
          · exact drStep_sound hT hg hd h
        · exact h.elim
theorem run_sound (hT : C.T.fits C.P) (hmx : C.P.follows .mixedOrders = true) : ∀ (n : Nat) {p : Pt}, (run C n p).holds C Q → p.ok C Q
  | 0, p, h => h
  | n + 1, p, h => by
    unfold run at h
    split at h
    · exact h
    · rename_i q hq
      exact step_sound hT hmx (by rw [hq]; exact run_sound hT hmx n h)
    · rename_i b q r hq
      exact step_sound hT hmx (by rw [hq]; exact h)
    · rename_i ex e σ hq
      exact step_sound hT hmx (by rw [hq]; exact h)
theorem runs_sound (hT : C.T.fits C.P) (hmx : C.P.follows .mixedOrders = true) (n : Nat) {p : Pt} (h : (runs C n p).holds C Q) : p.ok C Q := by
  unfold runs at h
  split at h
  · rename_i q hq
    exact step_sound hT hmx (by rw [hq]; exact run_sound hT hmx n h)
  · exact step_sound hT hmx h

/-! the way in, and on -/
def fE : Env → Option Env
  | [] => some []
  | x :: r => match fE r with
    | some r' => some (x :: r')
    | none => none
theorem fE_eq : ∀ e : Env, fE e = some e
  | [] => rfl
  | x :: r => by simp [fE, fE_eq r]
theorem gI {c : Code} {e e' : Env} {σ : St} (h : W C c e' σ (un C [] Q)) (he : fE e = some e' := by rfl) : W C c e σ Q := by
  rw [fE_eq] at he; injection he with he; subst he; exact h
theorem gC {c : Code} {s : List Fr} {e : Env} {σ : St} (hT : C.T.fits C.P) (hmx : C.P.follows .mixedOrders = true) (h : (runs C 1000 (.code c s e σ)).holds C Q) : W C c e σ (un C s Q) := runs_sound (p := .code c s e σ) hT hmx 1000 h
theorem gC0 {c : Code} {e : Env} {σ : St} (hT : C.T.fits C.P) (hmx : C.P.follows .mixedOrders = true) (h : (runs C 1000 (.code c [] e σ)).holds C Q) : W C c e σ Q := runs_sound (p := .code c [] e σ) hT hmx 1000 h
theorem gO {all l : List Oper} {s : List Fr} {e : Env} {σ : St} (hT : C.T.fits C.P) (hmx : C.P.follows .mixedOrders = true) (h : (runs C 1000 (.ops all l s e σ)).holds C Q) : ∀ k, WL C all l k e σ fun e σ => un C s Q .normal e σ := runs_sound (p := .ops all l s e σ) hT hmx 1000 h
theorem gR {all l : List Oper} {acc : List Rec} {s : List Fr} {e : Env} {σ : St} (hT : C.T.fits C.P) (hmx : C.P.follows .mixedOrders = true) (h : (runs C 1000 (.drw all l acc s e σ)).holds C Q) : ∀ k, DL C all l k e σ acc fun e σ => un C s Q .normal e σ := runs_sound (p := .drw all l acc s e σ) hT hmx 1000 h
theorem oW {all l : List Oper} {e : Env} {σ : St} {R : Env → St → Prop} (h : ∀ k, WL C all l k e σ R) (k : Nat) : WL C all l k e σ R := h k
theorem oD {all l : List Oper} {acc : List Rec} {e : Env} {σ : St} {R : Env → St → Prop} (h : ∀ k, DL C all l k e σ acc R) (k : Nat) : DL C all l k e σ acc R := h k
theorem gV {ex : Ex} {s : List Fr} {e : Env} {σ : St} (hT : C.T.fits C.P) (hmx : C.P.follows .mixedOrders = true) (h : (runs C 1000 (.val ex s e σ)).holds C Q) : un C s Q ex e σ := runs_sound (p := .val ex s e σ) hT hmx 1000 h
end
end Go.Am
