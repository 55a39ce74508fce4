/- The abstract machine: operations upon lists that are not written out. -/
import Derived.Test.YtfbocpbeogkapaaAmStep2
set_option linter.unusedVariables false
set_option linter.unusedSimpArgs false
namespace Go.Am
section
variable {C : Cx} {e : Env} {σ : St} {o : Oper} {nid : Nat}

theorem aop_ix {t : TypeId} {x i : Operand} {et : TypeId} {n : Nat} {rows : List (List D)} {kx : IntKind} {j : Int} {row : List D} (ho : o.op = .indexAddr t x i) (h1 : C.T.und t = some (.slice et)) (h2 : C.T.size et = some n)
    (hx : ev (opEnv e o) x = some (.one (.d (.list rows)))) (hi : ev (opEnv e o) i = some (.one (.d (.sc (.int kx j))))) (h4 : 0 ≤ j) (h3 : rows[j.toNat]? = some row) (h5 : row.length = n) :
    aop C nid e σ o = some (.one (.rptr row), []) := by
  unfold aop core
  rw [ho]
  simp only [hx, hi, indexAddr, h1, h2, h3, h5, decide_eq_true h4, cond_true, Nat.beq_refl, noU]

theorem aop_ixa {t : TypeId} {x i : Operand} {et : TypeId} {n id ep len : Nat} {rows : List (List D)} {kx : IntKind} {j : Int} {row : List D} (ho : o.op = .indexAddr t x i) (h1 : C.T.und t = some (.slice et)) (h2 : C.T.size et = some n)
    (hx : ev (opEnv e o) x = some (.one (.arr id ep len))) (hi : ev (opEnv e o) i = some (.one (.d (.sc (.int kx j))))) (hl : inFoot (foot (opEnv e o) o) σ id = some (.arr ep false n rows)) (hn : len = rows.length)
    (h4 : 0 ≤ j) (h3 : rows[j.toNat]? = some row) : aop C nid e σ o = some (.one (.rptr row), []) := by
  subst hn
  unfold aop core
  rw [ho]
  simp only [hx, hi, indexAddr, h1, h2, hl, h3, decide_eq_true h4, cond_true, cond_false, Nat.beq_refl, noU, Bool.and_self]

theorem aop_ixw {t : TypeId} {x i : Operand} {et : TypeId} {n id ep len : Nat} {rows : List (List D)} {kx : IntKind} {j : Int} {row : List D} (ho : o.op = .indexAddr t x i) (h1 : C.T.und t = some (.slice et)) (h2 : C.T.size et = some n)
    (hx : ev (opEnv e o) x = some (.one (.arr id ep len))) (hi : ev (opEnv e o) i = some (.one (.d (.sc (.int kx j))))) (hl : inFoot (foot (opEnv e o) o) σ id = some (.arr ep true n rows)) (hn : len = rows.length)
    (h4 : 0 ≤ j) (h3 : rows[j.toNat]? = some row) : aop C nid e σ o = some (.one (.eptr id ep len n j.toNat 0), []) := by
  subst hn
  unfold aop core
  rw [ho]
  simp only [hx, hi, indexAddr, h1, h2, hl, h3, decide_eq_true h4, cond_true, cond_false, Nat.beq_refl, noU, Bool.and_self]

theorem aop_app {s x : Operand} {t t' et : TypeId} {n w id ep len : Nat} {m : Bool} {z : List Cell} {rows xs : List (List D)} {xv : V} (ho : o.op = .call { callee := .builtin .append, args := #[s, x], argTypes := #[t, t'] })
    (hs : ev (opEnv e o) s = some (.one (.arr id ep len))) (hx : ev (opEnv e o) x = some xv) (ht' : C.T.und t' = some (.slice et)) (ht : C.T.elem t = some et) (hsz : C.T.size et = some n) (hby : C.T.bytes et = some (w + 1)) (hz : zeroCells C.T et = some z) (hzn : z.length = n)
    (hl : inFoot (foot (opEnv e o) o) σ id = some (.arr ep m n rows)) (hn : len = rows.length) (hxs : rowsIn (inFoot (foot (opEnv e o) o) σ) xv = some xs) (hok : rowsOk n xs = true) (hsm : (rows.length + xs.length) * (w + 1) ≤ most) :
    aop C nid e σ o = some (.one (.arr id ep (rows.length + xs.length)), [(id, .arr ep m n (rows ++ xs))]) := by
  subst hn
  subst hzn
  unfold aop core
  rw [ho]
  have hb : Nat.ble ((rows.length + xs.length) * (w + 1)) most = true := Nat.ble_eq_true_of_le hsm
  simp only [hs, hx, ht', appendOf, ht, hxs, hsz, hby, hz, hok, hl, hb, cond_true, Nat.beq_refl, Bool.and_self]

theorem aop_app0 {s x : Operand} {t t' et : TypeId} {n w : Nat} {z : List Cell} {xs : List (List D)} {xv : V} (ho : o.op = .call { callee := .builtin .append, args := #[s, x], argTypes := #[t, t'] })
    (hs : ev (opEnv e o) s = some (.one (.d (.sc (.slice none 0 0))))) (hx : ev (opEnv e o) x = some xv) (ht' : C.T.und t' = some (.slice et)) (ht : C.T.elem t = some et) (hsz : C.T.size et = some n) (hby : C.T.bytes et = some (w + 1)) (hz : zeroCells C.T et = some z) (hzn : z.length = n)
    (hxs : rowsIn (inFoot (foot (opEnv e o) o) σ) xv = some xs) (hok : rowsOk n xs = true) (hsm : xs.length * (w + 1) ≤ most) (hm : arMode C.ar o.dst = none) :
    aop C nid e σ o = some (.one (.d (.list xs)), []) := by
  subst hzn
  unfold aop core
  rw [ho]
  have hb : Nat.ble (xs.length * (w + 1)) most = true := Nat.ble_eq_true_of_le hsm
  simp only [hs, hx, ht', appendOf, ht, hxs, hsz, hby, hz, hok, hb, hm, cond_true, Nat.beq_refl, Bool.and_self]

theorem aop_app0m {s x : Operand} {t t' et : TypeId} {n w : Nat} {z : List Cell} {xs : List (List D)} {xv : V} {m : Bool} (ho : o.op = .call { callee := .builtin .append, args := #[s, x], argTypes := #[t, t'] })
    (hs : ev (opEnv e o) s = some (.one (.d (.sc (.slice none 0 0))))) (hx : ev (opEnv e o) x = some xv) (ht' : C.T.und t' = some (.slice et)) (ht : C.T.elem t = some et) (hsz : C.T.size et = some n) (hby : C.T.bytes et = some (w + 1)) (hz : zeroCells C.T et = some z) (hzn : z.length = n)
    (hxs : rowsIn (inFoot (foot (opEnv e o) o) σ) xv = some xs) (hok : rowsOk n xs = true) (hsm : xs.length * (w + 1) ≤ most) (hm : arMode C.ar o.dst = some m) :
    aop C nid e σ o = some (.one (.arr nid 0 xs.length), [(nid, .arr 0 m n xs)]) := by
  subst hzn
  unfold aop core
  rw [ho]
  have hb : Nat.ble (xs.length * (w + 1)) most = true := Nat.ble_eq_true_of_le hsm
  simp only [hs, hx, ht', appendOf, ht, hxs, hsz, hby, hz, hok, hb, hm, cond_true, Nat.beq_refl, Bool.and_self]

theorem aop_cut {t : TypeId} {x : Operand} {lo hi : Option Operand} {et : TypeId} {n : Nat} {rows : List (List D)} {l h : Option Int} (ho : o.op = .slice t x lo hi none) (ht : C.T.elem t = some et) (hsz : C.T.size et = some n)
    (hx : ev (opEnv e o) x = some (.one (.d (.list rows)))) (hlo : bound (ev (opEnv e o)) lo = some l) (hhi : bound (ev (opEnv e o)) hi = some h) (hok : rowsOk n rows = true)
    (h1 : 0 ≤ l.getD 0) (h2 : l.getD 0 ≤ h.getD rows.length) (h3 : h.getD rows.length ≤ rows.length) :
    aop C nid e σ o = some (.one (.d (.list ((rows.take (h.getD rows.length).toNat).drop (l.getD 0).toNat))), []) := by
  unfold aop core
  rw [ho]
  simp only [hx, hlo, hhi, sliceOf, ht, hsz, hok, decide_eq_true h1, decide_eq_true h2, decide_eq_true h3, cond_true, Bool.and_self]

theorem aop_str {src dst : TypeId} {x : Operand} {et : TypeId} {v : V} {rows : List (List D)} {bs : List UInt8} (ho : o.op = .convert src dst x) (h1 : C.T.und src = some (.slice et)) (h2 : C.T.und dst = some .string) (h3 : C.T.und et = some (.int .u8))
    (hx : ev (opEnv e o) x = some v) (hnot : (match v with | .one (.d (.sc (.string _))) => false | _ => true) = true) (hr : rowsIn (inFoot (foot (opEnv e o) o) σ) v = some rows) (hb : bytesOf rows = some bs) :
    aop C nid e σ o = some (.one (.d (.sc (.string ⟨bs.toArray⟩))), []) := by
  unfold aop core
  rw [ho]
  have : convertOf C.T src dst v (inFoot (foot (opEnv e o) o) σ) = some (.one (.d (.sc (.string ⟨bs.toArray⟩)))) := by
    unfold convertOf
    simp only [h1, h2, h3, hr, hb]
    split
    · simp at hnot
    · rename_i h4; injection h4 with h4; subst h4; rfl
    · simp at *
  simp only [hx, this]

/-! a slice that is written out: its rows as they stand -/
def fLL : List (List D) → Option (List (List D))
  | [] => some []
  | r :: rs => match fL r, fLL rs with
    | some r, some rs => some (r :: rs)
    | _, _ => none
theorem fLL_eq : ∀ l : List (List D), fLL l = some l
  | [] => rfl
  | r :: rs => by simp [fLL, fL_eq, fLL_eq rs]
def isBuildSlice (o : Oper) : Bool :=
  match o.op with
  | .buildSlice _ _ _ => true
  | _ => false
theorem WL.s' {all l : List Oper} {k : Nat} {Q : Env → St → Prop} (hb : isBuildSlice o = true) (hT : C.T.fits C.P) (hg : guardOk e all o = some true) (hd : dstOk C.n o = true) (hm : makes C o = false)
    {rows rows' : List (List D)} (hop : aop C 0 e σ o = some (.one (.d (.list rows)), [])) (hr : fLL rows = some rows') {e' : Env} (he : nput e o.dst (.one (.d (.list rows'))) = some e') (h : WL C all l (k + 1) e' σ Q) : WL C all (o :: l) k e σ Q := by
  rw [fLL_eq] at hr; injection hr with hr; subst hr; exact WL.q' hT hg hd hm hop (fV_eq _) he h
theorem DL.s' {all l : List Oper} {k : Nat} {acc : List Rec} {Q : Env → St → Prop} (hb : isBuildSlice o = true) (hT : C.T.fits C.P) (hg : guardOk e all o = some true) (hd : dstOk C.n o = true) (hm : makes C o = false)
    {rows rows' : List (List D)} (hop : aop C 0 e σ o = some (.one (.d (.list rows)), [])) (hr : fLL rows = some rows') {T F : List Nat} (hT' : fL (reads all o) = some T) (hF' : fL (foot (opEnv e o) o) = some F)
    {e' : Env} (he : nput e o.dst (.one (.d (.list rows'))) = some e') (h : DL C all l (k + 1) e' σ (⟨o.dst, .undef, [], T, F⟩ :: acc) Q) : DL C all (o :: l) k e σ acc Q := by
  rw [fLL_eq] at hr; injection hr with hr; subst hr; exact DL.q' hT hg hd hm hop (fV_eq _) hT' hF' he h

theorem snap_arr {look : Look} {id ep len sz : Nat} {rows : List (List D)} (h : look id = some (.arr ep false sz rows)) (hn : len = rows.length) : snapV look (.one (.arr id ep len)) = some (.one (.d (.list rows))) := by
  subst hn
  simp [snapV, snap, rowsOf, h]
theorem snapVs_cons {look : Look} {v v' : V} {vs vs' : List V} (h : snapV look v = some v') (h2 : snapVs look vs = some vs') : snapVs look (v :: vs) = some (v' :: vs') := by
  simp only [snapVs, h, h2]
theorem rowsIn_arr {look : Look} {id ep len sz : Nat} {m : Bool} {rows : List (List D)} (h : look id = some (.arr ep m sz rows)) (hn : len = rows.length) : rowsIn look (.one (.arr id ep len)) = some rows := by
  subst hn
  simp [rowsIn, rowsOf, h]
end
end Go.Am
