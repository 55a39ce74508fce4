/- The abstract machine: more rules: maps, slices of growing arrays, appending where the order is drawn, a nil slice that begins to be an array, a slice held against nil. -/
import Derived.Test.YtfbocpbeogkapaaAmRun
set_option linter.unusedVariables false
set_option linter.unusedSimpArgs false
namespace Go.Am
/-- what a look-up gives -/
def found (T : Tab) (et : TypeId) (x : FV) : Option (Nat × FV) → Prop
  | some (_, v) => v = x
  | none => ∃ z, T.zero et = some z ∧ ofValueF z = some x
def mapSet (es : List (Value × FV)) (k : Value) (f : FV) : Option (Nat × FV) → List (Value × FV)
  | some (i, _) => es.set i (k, f)
  | none => es ++ [(k, f)]
def mapDel (es : List (Value × FV)) : Option (Nat × FV) → List (Value × FV)
  | some (i, _) => es.eraseIdx i
  | none => es
section
variable {C : Cx} {e : Env} {σ : St} {o : Oper} {nid : Nat}
theorem aop_lookup {t kt et : TypeId} {m k : Operand} {ok : Bool} {id : Nat} {es : List (Value × FV)} {kv : Value} {r : Option (Nat × FV)} {x : FV} (ho : o.op = .lookup t m k ok) (ht : C.T.und t = some (.map kt et)) (hm : ev (opEnv e o) m = some (.one (.map id))) (hk : ev (opEnv e o) k = some (.one (.d (.sc kv))))
    (hl : inFoot (foot (opEnv e o) o) σ id = some (.map es)) (hf : keyFits C.T kt kv = true) (hr : findKey kv es 0 = some r) (hx : found C.T et x r) :
    aop C nid e σ o = some (bif ok then .tup [x, .one (.d (.sc (.bool r.isSome)))] else x.v, []) := by
  unfold aop core
  rw [ho]
  simp only [hm, hk, lookupOf, entriesOf, ht, hl, hf, cond_true, hr]
  cases r with
  | some p => obtain ⟨i, v⟩ := p; simp only [found] at hx; subst hx; rfl
  | none => obtain ⟨z, h1, h2⟩ := hx; simp only [h1, h2]; rfl
theorem aop_update {t kt et : TypeId} {m k x : Operand} {id : Nat} {es : List (Value × FV)} {kv : Value} {r : Option (Nat × FV)} {xv : V} {f : FV} (ho : o.op = .mapUpdate t m k x) (ht : C.T.und t = some (.map kt et)) (hm : ev (opEnv e o) m = some (.one (.map id))) (hk : ev (opEnv e o) k = some (.one (.d (.sc kv)))) (hx : ev (opEnv e o) x = some xv) (hxf : xv.fv = some f)
    (hl : inFoot (foot (opEnv e o) o) σ id = some (.map es)) (hf : keyFits C.T kt kv = true) (hr : findKey kv es 0 = some r) :
    aop C nid e σ o = some (.undef, [(id, .map (mapSet es kv f r))]) := by
  unfold aop core
  rw [ho]
  simp only [hm, hk, hx, updateOf, entriesOf, ht, hl, hf, cond_true, hr, hxf]
  cases r with
  | some p => obtain ⟨i, v⟩ := p; rfl
  | none => rfl
theorem aop_delete {t kt et t' : TypeId} {m k : Operand} {id : Nat} {es : List (Value × FV)} {kv : Value} {r : Option (Nat × FV)} (ho : o.op = .call { callee := .builtin .delete, args := #[m, k], argTypes := #[t, t'] }) (ht : C.T.und t = some (.map kt et)) (hm : ev (opEnv e o) m = some (.one (.map id))) (hk : ev (opEnv e o) k = some (.one (.d (.sc kv))))
    (hl : inFoot (foot (opEnv e o) o) σ id = some (.map es)) (hf : keyFits C.T kt kv = true) (hr : findKey kv es 0 = some r) :
    aop C nid e σ o = some (.tup [], [(id, .map (mapDel es r))]) := by
  unfold aop core
  rw [ho]
  simp only [hm, hk, deleteOf, entriesOf, ht, hl, hf, cond_true, hr]
  cases r with
  | some p => obtain ⟨i, v⟩ := p; rfl
  | none => rfl
theorem aop_cuta {t : TypeId} {x : Operand} {lo hi : Option Operand} {et : TypeId} {n id ep len : Nat} {rows : List (List D)} {l h : Option Int} (ho : o.op = .slice t x lo hi none) (ht : C.T.elem t = some et) (hsz : C.T.size et = some n)
    (hx : ev (opEnv e o) x = some (.one (.arr id ep len))) (hlk : inFoot (foot (opEnv e o) o) σ id = some (.arr ep false n rows)) (hn : len = rows.length) (hm : arMode C.ar o.dst = none) (hlo : bound (ev (opEnv e o)) lo = some l) (hhi : bound (ev (opEnv e o)) hi = some h)
    (h1 : 0 ≤ l.getD 0) (h2 : l.getD 0 ≤ h.getD rows.length) (h3 : h.getD rows.length ≤ rows.length) :
    aop C nid e σ o = some (.one (.d (.list ((rows.take (h.getD rows.length).toNat).drop (l.getD 0).toNat))), []) := by
  subst hn
  unfold aop core
  rw [ho]
  simp only [hx, hlo, hhi, sliceOf, hlk, ht, hsz, decide_eq_true h1, decide_eq_true h2, decide_eq_true h3, Nat.beq_refl, Bool.and_self, cond_true, hm, cond_false]
/-- an array that is cut back -/
theorem aop_cutb {t : TypeId} {x : Operand} {lo hi : Option Operand} {et : TypeId} {n id ep len : Nat} {m m' : Bool} {rows : List (List D)} {l h : Option Int} (ho : o.op = .slice t x lo hi none) (ht : C.T.elem t = some et) (hsz : C.T.size et = some n)
    (hx : ev (opEnv e o) x = some (.one (.arr id ep len))) (hlk : inFoot (foot (opEnv e o) o) σ id = some (.arr ep true n rows)) (hn : len = rows.length) (hm : arMode C.ar o.dst = some m') (hlo : bound (ev (opEnv e o)) lo = some l) (hhi : bound (ev (opEnv e o)) hi = some h)
    (h1 : l.getD 0 = 0) (h2 : 0 ≤ h.getD rows.length) (h3 : h.getD rows.length ≤ rows.length) :
    aop C nid e σ o = some (.one (.arr id (ep + 1) (h.getD rows.length).toNat), [(id, .arr (ep + 1) true n (rows.take (h.getD rows.length).toNat))]) := by
  subst hn
  unfold aop core
  rw [ho]
  have h2' : l.getD 0 ≤ h.getD rows.length := by rw [h1]; exact h2
  have h0 : 0 ≤ l.getD 0 := by omega
  simp only [hx, hlo, hhi, sliceOf, hlk, ht, hsz, decide_eq_true h1, decide_eq_true h0, decide_eq_true h2', decide_eq_true h3, Nat.beq_refl, Bool.and_self, cond_true, hm]
end

section
variable {C : Cx} {all l : List Oper} {k : Nat} {e : Env} {σ : St} {o : Oper} {acc : List Rec} {Q : Env → St → Prop}
/-- a map is asked; whether it is there: as the context says -/
theorem lLk (hT : C.T.fits C.P) {t kt et : TypeId} {m y : Operand} {ok : Bool} {id : Nat} {es : List (Value × FV)} {kv : Value} {r : Option (Nat × FV)} {x : FV} {v' : V} {e' : Env} (h : WL C all l (k + 1) e' σ Q) (ho : o.op = .lookup t m y ok := by rfl) (hg : guardOk e all o = some true := by rfl) (hd : dstOk C.n o = true := by rfl)
    (ht : C.T.und t = some (.map kt et) := by rfl) (hm : ev (opEnv e o) m = some (.one (.map id)) := by rfl) (hk : ev (opEnv e o) y = some (.one (.d (.sc kv))) := by rfl) (hl : inFoot (foot (opEnv e o) o) σ id = some (.map es) := by rfl) (hf : keyFits C.T kt kv = true := by rfl) (hr : findKey kv es 0 = some r := by first | assumption | rfl)
    (hx : found C.T et x r := by first | exact rfl | exact ⟨_, rfl, rfl⟩) (hv : fV (bif ok then .tup [x, .one (.d (.sc (.bool r.isSome)))] else x.v) = some v' := by rfl) (he : nput e o.dst v' = some e' := by rfl) : WL C all (o :: l) k e σ Q := by
  have hmk : makes C o = false := by unfold makes; rw [ho]
  exact WL.q' hT hg hd hmk (aop_lookup ho ht hm hk hl hf hr hx) hv he h
/-- a map is asked; whether it is there: as the context says -/
theorem dLk (hT : C.T.fits C.P) {t kt et : TypeId} {m y : Operand} {ok : Bool} {id : Nat} {es : List (Value × FV)} {kv : Value} {r : Option (Nat × FV)} {x : FV} {v' : V} {e' : Env} {T F : List Nat} (h : DL C all l (k + 1) e' σ (⟨o.dst, .undef, [], T, F⟩ :: acc) Q) (ho : o.op = .lookup t m y ok := by rfl) (hg : guardOk e all o = some true := by rfl) (hd : dstOk C.n o = true := by rfl)
    (ht : C.T.und t = some (.map kt et) := by rfl) (hm : ev (opEnv e o) m = some (.one (.map id)) := by rfl) (hk : ev (opEnv e o) y = some (.one (.d (.sc kv))) := by rfl) (hl : inFoot (foot (opEnv e o) o) σ id = some (.map es) := by rfl) (hf : keyFits C.T kt kv = true := by rfl) (hr : findKey kv es 0 = some r := by first | assumption | rfl)
    (hx : found C.T et x r := by first | exact rfl | exact ⟨_, rfl, rfl⟩) (hv : fV (bif ok then .tup [x, .one (.d (.sc (.bool r.isSome)))] else x.v) = some v' := by rfl) (hT' : fL (reads all o) = some T := by rfl) (hF' : fL (foot (opEnv e o) o) = some F := by rfl) (he : nput e o.dst v' = some e' := by rfl) : DL C all (o :: l) k e σ acc Q := by
  have hmk : makes C o = false := by unfold makes; rw [ho]
  exact DL.q' hT hg hd hmk (aop_lookup ho ht hm hk hl hf hr hx) hv hT' hF' he h
/-- a map is written -/
theorem lUp (hT : C.T.fits C.P) {t kt et : TypeId} {m y z : Operand} {id : Nat} {es : List (Value × FV)} {kv : Value} {r : Option (Nat × FV)} {xv : V} {f : FV} {σ' : St} {e' : Env} (h : WL C all l (k + 1) e' σ' Q) (ho : o.op = .mapUpdate t m y z := by rfl) (hg : guardOk e all o = some true := by rfl) (hd : dstOk C.n o = true := by rfl)
    (ht : C.T.und t = some (.map kt et) := by rfl) (hm : ev (opEnv e o) m = some (.one (.map id)) := by rfl) (hk : ev (opEnv e o) y = some (.one (.d (.sc kv))) := by rfl) (hx : ev (opEnv e o) z = some xv := by rfl) (hxf : xv.fv = some f := by rfl) (hl : inFoot (foot (opEnv e o) o) σ id = some (.map es) := by rfl) (hf : keyFits C.T kt kv = true := by rfl) (hr : findKey kv es 0 = some r := by first | assumption | rfl)
    (hσ : fS (σ.upd [(id, .map (mapSet es kv f r))]) = some σ' := by rfl) (he : nput e o.dst .undef = some e' := by rfl) : WL C all (o :: l) k e σ Q := by
  have hmk : makes C o = false := by unfold makes; rw [ho]
  exact WL.w' hT hg hd hmk (aop_update ho ht hm hk hx hxf hl hf hr) rfl hσ he h
theorem dUp (hT : C.T.fits C.P) {t kt et : TypeId} {m y z : Operand} {id : Nat} {es : List (Value × FV)} {kv : Value} {r : Option (Nat × FV)} {xv : V} {f : FV} {σ' : St} {e' : Env} {T F ws : List Nat} (h : DL C all l (k + 1) e' σ' (⟨o.dst, .undef, ws.map fun i => (i, .dead), T, F⟩ :: acc) Q) (ho : o.op = .mapUpdate t m y z := by rfl) (hg : guardOk e all o = some true := by rfl) (hd : dstOk C.n o = true := by rfl)
    (ht : C.T.und t = some (.map kt et) := by rfl) (hm : ev (opEnv e o) m = some (.one (.map id)) := by rfl) (hk : ev (opEnv e o) y = some (.one (.d (.sc kv))) := by rfl) (hx : ev (opEnv e o) z = some xv := by rfl) (hxf : xv.fv = some f := by rfl) (hl : inFoot (foot (opEnv e o) o) σ id = some (.map es) := by rfl) (hf : keyFits C.T kt kv = true := by rfl) (hr : findKey kv es 0 = some r := by first | assumption | rfl)
    (hσ : fS (σ.upd [(id, .map (mapSet es kv f r))]) = some σ' := by rfl) (hT' : fL (reads all o) = some T := by rfl) (hF' : fL (foot (opEnv e o) o) = some F := by rfl) (hw : fL [id] = some ws := by rfl) (he : nput e o.dst .undef = some e' := by rfl) : DL C all (o :: l) k e σ acc Q := by
  have hmk : makes C o = false := by unfold makes; rw [ho]
  exact DL.w' hT hg hd hmk (aop_update ho ht hm hk hx hxf hl hf hr) rfl hσ hT' hF' hw he h
theorem lDel (hT : C.T.fits C.P) {t kt et t' : TypeId} {m y : Operand} {id : Nat} {es : List (Value × FV)} {kv : Value} {r : Option (Nat × FV)} {σ' : St} {e' : Env} (h : WL C all l (k + 1) e' σ' Q) (ho : o.op = .call { callee := .builtin .delete, args := #[m, y], argTypes := #[t, t'] } := by rfl) (hg : guardOk e all o = some true := by rfl) (hd : dstOk C.n o = true := by rfl)
    (ht : C.T.und t = some (.map kt et) := by rfl) (hm : ev (opEnv e o) m = some (.one (.map id)) := by rfl) (hk : ev (opEnv e o) y = some (.one (.d (.sc kv))) := by rfl) (hl : inFoot (foot (opEnv e o) o) σ id = some (.map es) := by rfl) (hf : keyFits C.T kt kv = true := by rfl) (hr : findKey kv es 0 = some r := by first | assumption | rfl)
    (hσ : fS (σ.upd [(id, .map (mapDel es r))]) = some σ' := by rfl) (he : nput e o.dst (.tup []) = some e' := by rfl) : WL C all (o :: l) k e σ Q := by
  have hmk : makes C o = false := by unfold makes; rw [ho]
  exact WL.w' hT hg hd hmk (aop_delete ho ht hm hk hl hf hr) rfl hσ he h
/-- x[lo:hi] of a growing array, as data -/
theorem lKa (hT : C.T.fits C.P) {t : TypeId} {x : Operand} {lo hi : Option Operand} {et : TypeId} {n id ep len : Nat} {rows rows' : List (List D)} {a b : Option Int} {e' : Env} (h : WL C all l (k + 1) e' σ Q) (ho : o.op = .slice t x lo hi none := by rfl) (hg : guardOk e all o = some true := by rfl) (hd : dstOk C.n o = true := by rfl)
    (ht : C.T.elem t = some et := by rfl) (hsz : C.T.size et = some n := by rfl) (hx : ev (opEnv e o) x = some (.one (.arr id ep len)) := by rfl) (hlk : inFoot (foot (opEnv e o) o) σ id = some (.arr ep false n rows) := by rfl) (hn : len = rows.length := by rfl) (hm : arMode C.ar o.dst = none := by rfl) (hlo : bound (ev (opEnv e o)) lo = some a := by rfl) (hhi : bound (ev (opEnv e o)) hi = some b := by rfl)
    (h1 : 0 ≤ a.getD 0 := by simp only [List.length_map, List.length_append, List.length_cons, List.length_nil, List.length_replicate, Option.getD]; omega) (h2 : a.getD 0 ≤ b.getD rows.length := by simp only [List.length_map, List.length_append, List.length_cons, List.length_nil, List.length_replicate, Option.getD]; omega) (h3 : b.getD rows.length ≤ rows.length := by simp only [List.length_map, List.length_append, List.length_cons, List.length_nil, List.length_replicate, Option.getD]; omega)
    (hr : (rows.take (b.getD rows.length).toNat).drop (a.getD 0).toNat = rows' := by rfl) (he : nput e o.dst (.one (.d (.list rows'))) = some e' := by rfl) : WL C all (o :: l) k e σ Q := by
  subst hr
  have hmk : makes C o = false := by unfold makes; rw [ho]
  exact WL.q' hT hg hd hmk (aop_cuta ho ht hsz hx hlk hn hm hlo hhi h1 h2 h3) (fV_eq _) he h
/-- x[lo:hi] of a growing array, as data -/
theorem dKa (hT : C.T.fits C.P) {t : TypeId} {x : Operand} {lo hi : Option Operand} {et : TypeId} {n id ep len : Nat} {rows rows' : List (List D)} {a b : Option Int} {e' : Env} {T F : List Nat} (h : DL C all l (k + 1) e' σ (⟨o.dst, .undef, [], T, F⟩ :: acc) Q) (ho : o.op = .slice t x lo hi none := by rfl) (hg : guardOk e all o = some true := by rfl) (hd : dstOk C.n o = true := by rfl)
    (ht : C.T.elem t = some et := by rfl) (hsz : C.T.size et = some n := by rfl) (hx : ev (opEnv e o) x = some (.one (.arr id ep len)) := by rfl) (hlk : inFoot (foot (opEnv e o) o) σ id = some (.arr ep false n rows) := by rfl) (hn : len = rows.length := by rfl) (hm : arMode C.ar o.dst = none := by rfl) (hlo : bound (ev (opEnv e o)) lo = some a := by rfl) (hhi : bound (ev (opEnv e o)) hi = some b := by rfl)
    (h1 : 0 ≤ a.getD 0 := by simp only [List.length_map, List.length_append, List.length_cons, List.length_nil, List.length_replicate, Option.getD]; omega) (h2 : a.getD 0 ≤ b.getD rows.length := by simp only [List.length_map, List.length_append, List.length_cons, List.length_nil, List.length_replicate, Option.getD]; omega) (h3 : b.getD rows.length ≤ rows.length := by simp only [List.length_map, List.length_append, List.length_cons, List.length_nil, List.length_replicate, Option.getD]; omega)
    (hr : (rows.take (b.getD rows.length).toNat).drop (a.getD 0).toNat = rows' := by rfl) (hT' : fL (reads all o) = some T := by rfl) (hF' : fL (foot (opEnv e o) o) = some F := by rfl) (he : nput e o.dst (.one (.d (.list rows'))) = some e' := by rfl) : DL C all (o :: l) k e σ acc Q := by
  subst hr
  have hmk : makes C o = false := by unfold makes; rw [ho]
  exact DL.q' hT hg hd hmk (aop_cuta ho ht hsz hx hlk hn hm hlo hhi h1 h2 h3) (fV_eq _) hT' hF' he h
/-- onto a growing array, where the order is drawn -/
theorem dA (hT : C.T.fits C.P) {s x : Operand} {t t' et : TypeId} {n w id ep len : Nat} {m : Bool} {z : List Cell} {rows xs : List (List D)} {xv : V} {σ' : St} {e' : Env} {T F ws : List Nat} (h : DL C all l (k + 1) e' σ' (⟨o.dst, .undef, ws.map fun i => (i, .dead), T, F⟩ :: acc) Q) (ho : o.op = .call { callee := .builtin .append, args := #[s, x], argTypes := #[t, t'] } := by rfl) (hg : guardOk e all o = some true := by rfl) (hd : dstOk C.n o = true := by rfl) (hm : makes C o = false := by rfl)
    (hs : ev (opEnv e o) s = some (.one (.arr id ep len)) := by rfl) (hx : ev (opEnv e o) x = some xv := by rfl) (ht' : C.T.und t' = some (.slice et) := by rfl) (ht : C.T.elem t = some et := by rfl) (hsz : C.T.size et = some n := by rfl) (hby : C.T.bytes et = some (w + 1) := by rfl) (hz : zeroCells C.T et = some z := by rfl) (hzn : z.length = n := by rfl)
    (hl : inFoot (foot (opEnv e o) o) σ id = some (.arr ep m n rows) := by rfl) (hn : len = rows.length := by rfl) (hxs : rowsIn (inFoot (foot (opEnv e o) o) σ) xv = some xs := by first | rfl | exact rowsIn_arr rfl rfl) (hok : rowsOk n xs = true := by first | rfl | exact rowsOk_map_of (fun _ => rfl))
    (hsm : (rows.length + xs.length) * (w + 1) ≤ most := by simp only [most, List.length_map, List.length_append, List.length_cons, List.length_nil, List.length_replicate]; omega) (hσ : fS (σ.upd [(id, .arr ep m n (rows ++ xs))]) = some σ' := by rfl) (hT' : fL (reads all o) = some T := by rfl) (hF' : fL (foot (opEnv e o) o) = some F := by rfl) (hw : fL [id] = some ws := by rfl) (he : nput e o.dst (.one (.arr id ep (rows ++ xs).length)) = some e' := by rfl) : DL C all (o :: l) k e σ acc Q := by
  rw [List.length_append] at he
  exact DL.w' hT hg hd hm (aop_app ho hs hx ht' ht hsz hby hz hzn hl hn hxs hok hsm) (fV_eq _) hσ hT' hF' hw he h
theorem dA0 (hT : C.T.fits C.P) {s x : Operand} {t t' et : TypeId} {n w : Nat} {z : List Cell} {xs : List (List D)} {xv : V} {e' : Env} {T F : List Nat} (h : DL C all l (k + 1) e' σ (⟨o.dst, .undef, [], T, F⟩ :: acc) Q) (ho : o.op = .call { callee := .builtin .append, args := #[s, x], argTypes := #[t, t'] } := by rfl) (hg : guardOk e all o = some true := by rfl) (hd : dstOk C.n o = true := by rfl) (hm : arMode C.ar o.dst = none := by rfl)
    (hs : ev (opEnv e o) s = some (.one (.d (.sc (.slice none 0 0)))) := by rfl) (hx : ev (opEnv e o) x = some xv := by rfl) (ht' : C.T.und t' = some (.slice et) := by rfl) (ht : C.T.elem t = some et := by rfl) (hsz : C.T.size et = some n := by rfl) (hby : C.T.bytes et = some (w + 1) := by rfl) (hz : zeroCells C.T et = some z := by rfl) (hzn : z.length = n := by rfl)
    (hxs : rowsIn (inFoot (foot (opEnv e o) o) σ) xv = some xs := by first | rfl | exact rowsIn_arr rfl rfl) (hok : rowsOk n xs = true := by first | rfl | exact rowsOk_map_of (fun _ => rfl))
    (hsm : xs.length * (w + 1) ≤ most := by simp only [most, List.length_map, List.length_append, List.length_cons, List.length_nil, List.length_replicate]; omega) (hT' : fL (reads all o) = some T := by rfl) (hF' : fL (foot (opEnv e o) o) = some F := by rfl) (he : nput e o.dst (.one (.d (.list xs))) = some e' := by rfl) : DL C all (o :: l) k e σ acc Q := by
  have hmk : makes C o = false := by unfold makes; rw [ho]; simp only [hm]; rfl
  exact DL.q' hT hg hd hmk (aop_app0 ho hs hx ht' ht hsz hby hz hzn hxs hok hsm hm) (fV_eq _) hT' hF' he h
end
end Go.Am
