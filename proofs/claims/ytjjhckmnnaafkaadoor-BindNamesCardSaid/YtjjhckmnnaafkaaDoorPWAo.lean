/- A part of a proof: functions of the program walked over the abstract machine, and what they compute. -/
import Derived.Test.YtjjhckmnnaafkaaDoorPWAn
set_option linter.unusedVariables false
set_option linter.unusedSimpArgs false
namespace Go.Proofs.YtjjhckmnnaafkaaDoor
open Go Go.Am Go.Proofs
attribute [local irreducible] W WL DL WO RoundEnd
set_option maxRecDepth 10000
set_option maxHeartbeats 4000000
def cmpOps : List ByteArray := [⟨#[61, 61]⟩, ⟨#[33, 61]⟩, ⟨#[60]⟩, ⟨#[60, 61]⟩, ⟨#[62]⟩, ⟨#[62, 61]⟩]
def boolF : Nat → Ex → Bool
  | 0, _ => false
  | m + 1, e => match whatF e with
    | .pr a b => if e.kind = 1 ∨ e.kind = 2 then boolF m a && boolF m b else if e.kind = 4 then cmpOps.any (e.op == ·) && (comparedF a && numF m b) else false
    | .sg a => boolF m a
    | _ => false
theorem boolR : ∀ (n : Nat) (e : Ex), e.size < n → e.nok → Comp Tryd.prog 74 [.agg (e.row.map .d)] (bool (boolF n e)) := by
  intro n
  induction n with
  | zero => intro e h; omega
  | succ n IH =>
  intro e hs hn
  have c1 := whatR e
  have hin := whatF_in e
  generalize hfb : boolF (n + 1) e = fb
  rw [boolF] at hfb
  obtain ⟨kd, o, nm, u, l⟩ := e
  cases hw : whatF (.mk kd o nm u l) with
  | none =>
    rw [hw] at c1 hfb
    refine Spec.body (C := cx [] 49) fits (fn := Tryd.f74) Tryd.func74 rfl (by decide) (by decide) (gI ?_)
    refine ST (wc c1 wz) ?_ <;> (repeat' (first | exact Wl.mk | refine wy1 ?_ ?_)) <;> repeat (intro hb; have hx := wy5 hb; clear hx)
    all_goals exact ⟨by rw [← hfb]; rfl, rfl⟩
  | num =>
    rw [hw] at c1 hfb hin
    have hk : kd = 7 := hin
    subst hk
    refine Spec.body (C := cx [] 49) fits (fn := Tryd.f74) Tryd.func74 rfl (by decide) (by decide) (gI ?_)
    refine ST (wc c1 wz) ?_ <;> (repeat' (first | exact Wl.mk | refine wy1 ?_ ?_)) <;> repeat (intro hb; have hx := wy5 hb; clear hx)
    all_goals exact ⟨by rw [← hfb]; rfl, rfl⟩
  | nam =>
    rw [hw] at c1 hfb hin
    have hk : kd = 5 := hin
    subst hk
    refine Spec.body (C := cx [] 49) fits (fn := Tryd.f74) Tryd.func74 rfl (by decide) (by decide) (gI ?_)
    refine ST (wc c1 wz) ?_ <;> (repeat' (first | exact Wl.mk | refine wy1 ?_ ?_)) <;> repeat (intro hb; have hx := wy5 hb; clear hx)
    all_goals exact ⟨by rw [← hfb]; rfl, rfl⟩
  | msk x =>
    rw [hw] at c1 hfb hin
    have hk : kd = 6 := hin.1
    subst hk
    refine Spec.body (C := cx [] 49) fits (fn := Tryd.f74) Tryd.func74 rfl (by decide) (by decide) (gI ?_)
    refine ST (wc c1 wz) ?_ <;> (repeat' (first | exact Wl.mk | refine wy1 ?_ ?_)) <;> repeat (intro hb; have hx := wy5 hb; clear hx)
    all_goals exact ⟨by rw [← hfb]; rfl, rfl⟩
  | sg x =>
    rw [hw] at c1 hfb hin
    have hk : kd = 3 := hin.1
    have hl : l = [x] := hin.2
    subst hk; subst hl
    have c2 := IH x (by simp only [Ex.size, Ex.sizes] at hs; omega) hn.2.1
    obtain ⟨k1, o1, n1, u1, l1⟩ := x
    refine Spec.body (C := cx [] 49) fits (fn := Tryd.f74) Tryd.func74 rfl (by decide) (by decide) (gI ?_)
    repeat' (first | ((first | refine C_r ?_ | refine C0_r ?_ | refine O_r ?_ | refine R_r ?_); (conv => whnf); first | (refine ⟨fun hb => ?_, fun hb => ?_⟩ <;> try exact no_way) | refine A_o ?_ | refine B_o ?_ | refine C_o ?_ | refine R_o ?_ | refine fR ?_ | refine fRk ?_ | refine F_o ?_) | refine C_l (c1) ?_ | refine B_l (c2) (fun h2 => ?_) fun h2 => ?_ | refine SA_l ?_ | refine V_l ?_ | refine L_l ?_ | refine Q_l ?_ | refine X_l ?_ | refine Xa_l ?_ | refine Xs_l ?_ | refine K_l ?_ | refine Ka_l ?_ | refine Lk_l ?_ | refine Up_l ?_ | refine Del_l ?_ | refine St_l ?_ | refine LU_l ?_ | refine Xw_l ?_ | refine Le_l ?_ | refine Se_l ?_ | refine M_l ?_ | refine A_l ?_ | refine A0_l ?_ | refine A1_l ?_ | refine Mk_l ?_ | refine Kz_l ?_ | refine W_l ?_ | fail)
    all_goals exact ⟨by rw [← hfb]; simp only [h2]; rfl, rfl⟩
  | pr x y =>
    rw [hw] at c1 hfb hin
    have hl : l = [x, y] := hin.2
    have hk := hin.1
    subst hl
    have c2 := IH x (by simp only [Ex.size, Ex.sizes] at hs; omega) hn.2.1
    have c3 := IH y (by simp only [Ex.size, Ex.sizes] at hs; omega) hn.2.2.1
    have c4 := comparedR x hn.2.1
    have c5 := numberR n y (by simp only [Ex.size, Ex.sizes] at hs; omega) hn.2.2.1
    have c6 := containsR cmpOps o (by decide)
    obtain ⟨k1, o1, n1, u1, l1⟩ := x
    obtain ⟨k2, o2, n2, u2, l2⟩ := y
    simp only [Ex.kind, twoF, Bool.or_eq_true, beq_iff_eq] at hk
    rcases hk with rfl | rfl | rfl | rfl
    · refine Spec.body (C := cx [] 49) fits (fn := Tryd.f74) Tryd.func74 rfl (by decide) (by decide) (gI ?_)
      repeat' (first | ((first | refine C_r ?_ | refine C0_r ?_ | refine O_r ?_ | refine R_r ?_); (conv => whnf); first | (refine ⟨fun hb => ?_, fun hb => ?_⟩ <;> try exact no_way) | refine A_o ?_ | refine B_o ?_ | refine C_o ?_ | refine R_o ?_ | refine fR ?_ | refine fRk ?_ | refine F_o ?_) | refine C_l (c1) ?_ | refine B_l (c6) (fun h6 => ?_) fun h6 => ?_ | refine B_l (c4) (fun h4 => ?_) fun h4 => ?_ | refine B_l (c5) (fun h5 => ?_) fun h5 => ?_ | refine SA_l ?_ | refine V_l ?_ | refine L_l ?_ | refine Q_l ?_ | refine X_l ?_ | refine Xa_l ?_ | refine Xs_l ?_ | refine K_l ?_ | refine Ka_l ?_ | refine Lk_l ?_ | refine Up_l ?_ | refine Del_l ?_ | refine St_l ?_ | refine LU_l ?_ | refine Xw_l ?_ | refine Le_l ?_ | refine Se_l ?_ | refine M_l ?_ | refine A_l ?_ | refine A0_l ?_ | refine A1_l ?_ | refine Mk_l ?_ | refine Kz_l ?_ | refine W_l ?_ | fail)
      all_goals first | exact ⟨by rw [← hfb]; simp [Ex.kind, Ex.op, h4, h5, h6]; rfl, rfl⟩ | exact ⟨by rw [← hfb]; simp [Ex.kind, Ex.op, h4, h6]; rfl, rfl⟩ | exact ⟨by rw [← hfb]; simp [Ex.kind, Ex.op, h6]; rfl, rfl⟩ | trace_state
    · refine Spec.body (C := cx [] 49) fits (fn := Tryd.f74) Tryd.func74 rfl (by decide) (by decide) (gI ?_)
      repeat' (first | ((first | refine C_r ?_ | refine C0_r ?_ | refine O_r ?_ | refine R_r ?_); (conv => whnf); first | (refine ⟨fun hb => ?_, fun hb => ?_⟩ <;> try exact no_way) | refine A_o ?_ | refine B_o ?_ | refine C_o ?_ | refine R_o ?_ | refine fR ?_ | refine fRk ?_ | refine F_o ?_) | refine C_l (c1) ?_ | refine B_l (c2) (fun h2 => ?_) fun h2 => ?_ | refine B_l (c3) (fun h3 => ?_) fun h3 => ?_ | refine SA_l ?_ | refine V_l ?_ | refine L_l ?_ | refine Q_l ?_ | refine X_l ?_ | refine Xa_l ?_ | refine Xs_l ?_ | refine K_l ?_ | refine Ka_l ?_ | refine Lk_l ?_ | refine Up_l ?_ | refine Del_l ?_ | refine St_l ?_ | refine LU_l ?_ | refine Xw_l ?_ | refine Le_l ?_ | refine Se_l ?_ | refine M_l ?_ | refine A_l ?_ | refine A0_l ?_ | refine A1_l ?_ | refine Mk_l ?_ | refine Kz_l ?_ | refine W_l ?_ | fail)
      all_goals first | exact ⟨by rw [← hfb]; simp [Ex.kind, h2, h3]; rfl, rfl⟩ | exact ⟨by rw [← hfb]; simp [Ex.kind, h2]; rfl, rfl⟩ | trace_state
    · refine Spec.body (C := cx [] 49) fits (fn := Tryd.f74) Tryd.func74 rfl (by decide) (by decide) (gI ?_)
      repeat' (first | ((first | refine C_r ?_ | refine C0_r ?_ | refine O_r ?_ | refine R_r ?_); (conv => whnf); first | (refine ⟨fun hb => ?_, fun hb => ?_⟩ <;> try exact no_way) | refine A_o ?_ | refine B_o ?_ | refine C_o ?_ | refine R_o ?_ | refine fR ?_ | refine fRk ?_ | refine F_o ?_) | refine C_l (c1) ?_ | refine B_l (c2) (fun h2 => ?_) fun h2 => ?_ | refine B_l (c3) (fun h3 => ?_) fun h3 => ?_ | refine SA_l ?_ | refine V_l ?_ | refine L_l ?_ | refine Q_l ?_ | refine X_l ?_ | refine Xa_l ?_ | refine Xs_l ?_ | refine K_l ?_ | refine Ka_l ?_ | refine Lk_l ?_ | refine Up_l ?_ | refine Del_l ?_ | refine St_l ?_ | refine LU_l ?_ | refine Xw_l ?_ | refine Le_l ?_ | refine Se_l ?_ | refine M_l ?_ | refine A_l ?_ | refine A0_l ?_ | refine A1_l ?_ | refine Mk_l ?_ | refine Kz_l ?_ | refine W_l ?_ | fail)
      all_goals first | exact ⟨by rw [← hfb]; simp [Ex.kind, h2, h3]; rfl, rfl⟩ | exact ⟨by rw [← hfb]; simp [Ex.kind, h2]; rfl, rfl⟩ | trace_state
    · refine Spec.body (C := cx [] 49) fits (fn := Tryd.f74) Tryd.func74 rfl (by decide) (by decide) (gI ?_)
      refine ST (wc c1 wz) ?_ <;> (repeat' (first | exact Wl.mk | refine wy1 ?_ ?_)) <;> repeat (intro hb; have hx := wy5 hb; clear hx)
      all_goals exact ⟨by rw [← hfb]; rfl, rfl⟩
end Go.Proofs.YtjjhckmnnaafkaaDoor
namespace Go.Proofs.YtjjhckmnnaafkaaDoor
open Go Go.Am Go.Proofs
section
variable {α : Type}
/-- a key's place and value -/
def fk (k : ByteArray) : List (ByteArray × α) → Nat → Option (Nat × α)
  | [], _ => none
  | (k', v) :: r, i => if k = k' then some (i, v) else fk k r (i + 1)
def ents (enc : α → Am.FV) (l : List (ByteArray × α)) : List (Value × Am.FV) := l.map fun p => (.string p.1, enc p.2)
theorem findKey_ents (enc : α → Am.FV) (k : ByteArray) : ∀ (l : List (ByteArray × α)) (i : Nat), findKey (.string k) (ents enc l) i = some ((fk k l i).map fun p => (p.1, enc p.2))
  | [], i => rfl
  | (k', v) :: r, i => by
    show (match keyEq (.string k) (.string k') with
      | some true => some (some (i, enc v))
      | some false => findKey (.string k) (ents enc r) (i + 1)
      | none => none) = _
    rw [findKey_ents enc k r (i + 1)]
    simp only [keyEq, fk, ba_beq]
    by_cases h : k = k'
    · simp [h]
    · simp [h]
theorem fk_spec {k : ByteArray} : ∀ {l : List (ByteArray × α)} {i j : Nat} {v : α}, fk k l i = some (j, v) → ∃ n, j = i + n ∧ l[n]? = some (k, v)
  | (k', v') :: r, i, j, v, h => by
    rw [fk] at h
    split at h
    · rename_i he
      simp only [Option.some.injEq, Prod.mk.injEq] at h
      exact ⟨0, by omega, by rw [he, ← h.2]; rfl⟩
    · obtain ⟨n, h1, h2⟩ := fk_spec h
      exact ⟨n + 1, by omega, by simpa using h2⟩
theorem fk_none {k : ByteArray} : ∀ {l : List (ByteArray × α)} {i : Nat}, fk k l i = none ↔ k ∉ l.map (·.1)
  | [], i => by simp [fk]
  | (k', v') :: r, i => by
    rw [fk]
    split
    · rename_i h; simp [h]
    · rename_i h; rw [fk_none (l := r)]; simp [h]
theorem fk_append {k : ByteArray} {m : List (ByteArray × α)} : ∀ {l : List (ByteArray × α)} {i : Nat}, k ∉ l.map (·.1) → fk k (l ++ m) i = fk k m (i + l.length)
  | [], i, _ => by simp
  | (k', v') :: r, i, h => by
    simp only [List.map_cons, List.mem_cons, not_or] at h
    rw [List.cons_append, fk, if_neg h.1, fk_append h.2, List.length_cons]
    congr 1; omega
theorem ents_append (enc : α → Am.FV) (l m : List (ByteArray × α)) : ents enc (l ++ m) = ents enc l ++ ents enc m := by simp [ents]
theorem ents_erase (enc : α → Am.FV) : ∀ (l : List (ByteArray × α)) (i : Nat), (ents enc l).eraseIdx i = ents enc (l.eraseIdx i)
  | [], i => rfl
  | x :: l, 0 => rfl
  | x :: l, i + 1 => by
    show _ :: (ents enc l).eraseIdx i = _ :: ents enc (l.eraseIdx i)
    rw [ents_erase enc l i]
end
end Go.Proofs.YtjjhckmnnaafkaaDoor
namespace Go.Proofs.YtjjhckmnnaafkaaDoor
open Go Go.Am Go.Proofs
/-- a constant -/
structure Def where
  name : ByteArray
  expr : Ex
def Def.row (x : Def) : List D := .sc (.string x.name) :: x.expr.row
/-- a unit -/
structure Un where
  defs : List Def
  pols : List Pol
  main : List ByteArray
  dflt : Act
def Un.cells (u : Un) : List Cell := [.d (.list (u.defs.map Def.row)), .d (.list (u.pols.map Pol.row)), .d (.list (u.main.map strow)), .d (.sc (.int .i64 u.dflt.kind)), .d (.sc (.int .i64 u.dflt.data))]
end Go.Proofs.YtjjhckmnnaafkaaDoor
namespace Go.Proofs.YtjjhckmnnaafkaaDoor
open Go Go.Am Go.Proofs
attribute [local irreducible] W WL DL WO RoundEnd
set_option maxRecDepth 10000
set_option maxHeartbeats 4000000
/-- what is known of a name: its number, or why there is none -/
abbrev KM := List (ByteArray × (Int × Int))
def encN (p : Int × Int) : Am.FV := .agg [.d (.sc (.int .u64 p.1)), .d (.sc (.int .i64 p.2))]
def knV (p : Int × Int) : V := .agg [.d (.sc (.int .u64 p.1)), .d (.sc (.int .i64 p.2))]
theorem pureN (m : KM) (L : Nat → Bool) : ((ents encN m).all fun x => x.2.under L) = true := by
  simp only [ents, List.all_map, List.all_eq_true]; intro x _; rfl
theorem one_kind {e : Ex} (h : oneF e = true) : e.kind = 7 ∨ e.kind = 5 := by
  have := whatF_in e
  unfold oneF at h
  cases hw : whatF e <;> rw [hw] at h this <;> simp_all
def or64 (a b : Int) : Int := IntKind.wrap .u64 ((BitVec.ofInt IntKind.u64.bits a ||| BitVec.ofInt IntKind.u64.bits b).toNat : Int)
/-- a number's value, by what is known -/
def cvalF (m : KM) : Nat → Ex → Int × Int
  | 0, _ => (0, 0)
  | n + 1, .mk kd _ nm u l => if kd = 7 then (u, 0) else if kd = 8 then (match l with
      | [x, y] => if (cvalF m n x).2 = 0 then (if (cvalF m n y).2 = 0 then (or64 (cvalF m n x).1 (cvalF m n y).1, 0) else cvalF m n y) else cvalF m n x
      | _ => (0, 0)) else match fk nm m 0 with
      | none => (0, 7)
      | some (_, k) => k
def cofF (m : KM) (e : Ex) : Int × Int := if numF (e.size + 1) e = true then cvalF m (e.size + 1) e else (0, 1)
theorem underN0 (m : KM) : ([Ob.map (ents encN m)].all fun o => o.under (alive [Ob.map (ents encN m)])) = true := by
  simp only [List.all_cons, List.all_nil, Ob.under, pureN m _, Bool.and_true]
theorem underR0 (m : KM) : ([Ob.map (ents encN m)].all fun o => o.under (Am.inR [0])) = true := by
  simp only [List.all_cons, List.all_nil, Ob.under, pureN m _, Bool.and_true]
theorem cval70 (m : KM) (o nm : ByteArray) (u : Int) (l : List Ex) : Am.Spec Tryd.prog 53 [.one (.map 0), .agg ((Ex.mk 7 o nm u l).row.map .d)] [Ob.map (ents encN m)] (fun v s => v = knV (u, 0) ∧ s = [Ob.map (ents encN m)]) := by
  refine Spec.body (C := cx [] 55) fits (fn := Tryd.f53) Tryd.func53 rfl (by decide) (by decide) (gI ?_)
  repeat' (first | refine fR ?_ (h6 := underN0 m) | ((first | refine C_r ?_ | refine C0_r ?_ | refine O_r ?_ | refine R_r ?_); (conv => whnf); first | (refine ⟨fun hb => ?_, fun hb => ?_⟩ <;> try exact no_way) | refine A_o ?_ | refine B_o ?_ | refine C_o ?_ | refine R_o ?_ | refine fR ?_ | refine fRk ?_ | refine F_o ?_) | refine SA_l ?_ | refine V_l ?_ | refine L_l ?_ | refine Q_l ?_ | refine X_l ?_ | refine Xa_l ?_ | refine Xs_l ?_ | refine K_l ?_ | refine Ka_l ?_ | refine Lk_l ?_ | refine Up_l ?_ | refine Del_l ?_ | refine St_l ?_ | refine LU_l ?_ | refine Xw_l ?_ | refine Le_l ?_ | refine Se_l ?_ | refine M_l ?_ | refine A_l ?_ | refine A0_l ?_ | refine A1_l ?_ | refine Mk_l ?_ | refine Kz_l ?_ | refine W_l ?_ | fail)
  exact ⟨rfl, rfl⟩
theorem cval50 (m : KM) (o nm : ByteArray) (u : Int) (l : List Ex) : Am.Spec Tryd.prog 53 [.one (.map 0), .agg ((Ex.mk 5 o nm u l).row.map .d)] [Ob.map (ents encN m)]
    (fun v s => v = knV (match fk nm m 0 with | none => (0, 7) | some (_, k) => k) ∧ s = [Ob.map (ents encN m)]) := by
  rcases h1 : fk nm m 0 with _ | ⟨i1, k1, k2⟩
  · have hk : findKey (.string nm) (ents encN m) 0 = some none := by rw [findKey_ents, h1]; rfl
    refine Spec.body (C := cx [] 55) fits (fn := Tryd.f53) Tryd.func53 rfl (by decide) (by decide) (gI ?_)
    repeat' (first | refine fR ?_ (h6 := underN0 m) | ((first | refine C_r ?_ | refine C0_r ?_ | refine O_r ?_ | refine R_r ?_); (conv => whnf); first | (refine ⟨fun hb => ?_, fun hb => ?_⟩ <;> try exact no_way) | refine A_o ?_ | refine B_o ?_ | refine C_o ?_ | refine R_o ?_ | refine fR ?_ | refine fRk ?_ | refine F_o ?_) | refine SA_l ?_ | refine V_l ?_ | refine L_l ?_ | refine Q_l ?_ | refine X_l ?_ | refine Xa_l ?_ | refine Xs_l ?_ | refine K_l ?_ | refine Ka_l ?_ | refine Lk_l ?_ | refine Up_l ?_ | refine Del_l ?_ | refine St_l ?_ | refine LU_l ?_ | refine Xw_l ?_ | refine Le_l ?_ | refine Se_l ?_ | refine M_l ?_ | refine A_l ?_ | refine A0_l ?_ | refine A1_l ?_ | refine Mk_l ?_ | refine Kz_l ?_ | refine W_l ?_ | fail)
    exact ⟨rfl, rfl⟩
  · have hk : findKey (.string nm) (ents encN m) 0 = some (some (i1, encN (k1, k2))) := by rw [findKey_ents, h1]; rfl
    refine Spec.body (C := cx [] 55) fits (fn := Tryd.f53) Tryd.func53 rfl (by decide) (by decide) (gI ?_)
    repeat' (first | refine fR ?_ (h6 := underN0 m) | ((first | refine C_r ?_ | refine C0_r ?_ | refine O_r ?_ | refine R_r ?_); (conv => whnf); first | (refine ⟨fun hb => ?_, fun hb => ?_⟩ <;> try exact no_way) | refine A_o ?_ | refine B_o ?_ | refine C_o ?_ | refine R_o ?_ | refine fR ?_ | refine fRk ?_ | refine F_o ?_) | refine SA_l ?_ | refine V_l ?_ | refine L_l ?_ | refine Q_l ?_ | refine X_l ?_ | refine Xa_l ?_ | refine Xs_l ?_ | refine K_l ?_ | refine Ka_l ?_ | refine Lk_l ?_ | refine Up_l ?_ | refine Del_l ?_ | refine St_l ?_ | refine LU_l ?_ | refine Xw_l ?_ | refine Le_l ?_ | refine Se_l ?_ | refine M_l ?_ | refine A_l ?_ | refine A0_l ?_ | refine A1_l ?_ | refine Mk_l ?_ | refine Kz_l ?_ | refine W_l ?_ | fail)
    exact ⟨rfl, rfl⟩
theorem cval80 (m : KM) (o nm : ByteArray) (u : Int) (x y : Ex) (a b : Int × Int)
    (hx : Am.Spec Tryd.prog 53 [.one (.map 0), .agg (x.row.map .d)] [Ob.map (ents encN m)] (fun v s => v = knV a ∧ s = [Ob.map (ents encN m)]))
    (hy : Am.Spec Tryd.prog 53 [.one (.map 0), .agg (y.row.map .d)] [Ob.map (ents encN m)] (fun v s => v = knV b ∧ s = [Ob.map (ents encN m)])) :
    Am.Spec Tryd.prog 53 [.one (.map 0), .agg ((Ex.mk 8 o nm u [x, y]).row.map .d)] [Ob.map (ents encN m)]
    (fun v s => v = knV (if a.2 = 0 then (if b.2 = 0 then (or64 a.1 b.1, 0) else b) else a) ∧ s = [Ob.map (ents encN m)]) := by
  obtain ⟨k1, o1, n1, u1, l1⟩ := x
  obtain ⟨k2, o2, n2, u2, l2⟩ := y
  obtain ⟨a1, a2⟩ := a
  obtain ⟨b1, b2⟩ := b
  refine Spec.body (C := cx [] 55) fits (fn := Tryd.f53) Tryd.func53 rfl (by decide) (by decide) (gI ?_)
  repeat' (first | refine fR ?_ (h6 := underN0 m) | ((first | refine C_r ?_ | refine C0_r ?_ | refine O_r ?_ | refine R_r ?_); (conv => whnf); first | (refine ⟨fun hb => ?_, fun hb => ?_⟩ <;> try exact no_way) | refine A_o ?_ | refine B_o ?_ | refine C_o ?_ | refine R_o ?_ | refine fR ?_ | refine fRk ?_ | refine F_o ?_) | refine fun k => WL.crp [0] [Ob.map (ents encN m)] _ _ hx (oW ?_ _) (underN0 m) (underR0 m) | refine fun k => WL.crp [0] [Ob.map (ents encN m)] _ _ hy (oW ?_ _) (underN0 m) (underR0 m) | refine SA_l ?_ | refine V_l ?_ | refine L_l ?_ | refine Q_l ?_ | refine X_l ?_ | refine Xa_l ?_ | refine Xs_l ?_ | refine K_l ?_ | refine Ka_l ?_ | refine Lk_l ?_ | refine Up_l ?_ | refine Del_l ?_ | refine St_l ?_ | refine LU_l ?_ | refine Xw_l ?_ | refine Le_l ?_ | refine Se_l ?_ | refine M_l ?_ | refine A_l ?_ | refine A0_l ?_ | refine A1_l ?_ | refine Mk_l ?_ | refine Kz_l ?_ | refine W_l ?_ | fail)
  · have h1 : ¬ a2 = 0 := by simpa using hb
    exact ⟨by simp only [if_neg h1]; rfl, rfl⟩
  · have h1 : a2 = 0 := by
      have h : (!(a2 == 0)) = false := by assumption
      simpa using h
    have h2 : ¬ b2 = 0 := by simpa using hb
    exact ⟨by simp only [if_pos h1, if_neg h2]; rfl, rfl⟩
  · have h1 : a2 = 0 := by
      have h : (!(a2 == 0)) = false := by assumption
      simpa using h
    have h2 : b2 = 0 := by simpa using hb
    exact ⟨by simp only [if_pos h1, if_pos h2]; rfl, rfl⟩
theorem cvalR0 (m : KM) : ∀ (n : Nat) (e : Ex), e.size < n → numF n e = true → Am.Spec Tryd.prog 53 [.one (.map 0), .agg (e.row.map .d)] [Ob.map (ents encN m)] (fun v s => v = knV (cvalF m n e) ∧ s = [Ob.map (ents encN m)]) := by
  intro n
  induction n with
  | zero => intro e h; omega
  | succ n IH =>
  intro e hs hn
  rw [numF] at hn
  have hin := whatF_in e
  have hok := one_kind (e := e)
  obtain ⟨kd, o, nm, u, l⟩ := e
  by_cases h8 : kd = 8
  · subst h8
    rw [if_pos (show (Ex.mk 8 o nm u l).kind = 8 from rfl)] at hn
    cases hw : whatF (.mk 8 o nm u l) with
    | pr x y =>
      rw [hw] at hin hn
      have hl : l = [x, y] := hin.2
      subst hl
      simp only [Bool.and_eq_true] at hn
      simp only [Ex.size, Ex.sizes] at hs
      have hy : numF n y = true := by
        cases n with
        | zero => omega
        | succ n =>
          rw [numF, if_neg (by rcases one_kind hn.1 with h | h <;> rw [h] <;> decide)]
          exact hn.1
      have c1 := IH x (by omega) hn.2
      have c2 := IH y (by omega) hy
      have g := cval80 m o nm u x y _ _ c1 c2
      exact g
    | none => rw [hw] at hn; simp at hn
    | num => rw [hw] at hn; simp at hn
    | nam => rw [hw] at hn; simp at hn
    | msk x => rw [hw] at hn; simp at hn
    | sg x => rw [hw] at hn; simp at hn
  · rw [if_neg (show ¬ (Ex.mk kd o nm u l).kind = 8 from h8)] at hn
    rcases hok hn with h | h
    · have h' : kd = 7 := h
      subst h'
      exact cval70 m o nm u l
    · have h' : kd = 5 := h
      subst h'
      exact cval50 m o nm u l
theorem cofR0 (m : KM) (e : Ex) (h : e.nok) : Am.Spec Tryd.prog 32 [.one (.map 0), .agg (e.row.map .d)] [Ob.map (ents encN m)] (fun v s => v = knV (cofF m e) ∧ s = [Ob.map (ents encN m)]) := by
  have c1 := numberR (e.size + 1) e (Nat.lt_succ_self _) h
  have c2 := cvalR0 m (e.size + 1) e (Nat.lt_succ_self _)
  unfold cofF
  cases hn : numF (e.size + 1) e with
  | true =>
    rw [hn] at c1
    have c3 := c2 hn
    rw [if_pos rfl]
    generalize cvalF m (e.size + 1) e = q at c3
    obtain ⟨kd, o, nm, u, l⟩ := e
    obtain ⟨q1, q2⟩ := q
    refine Spec.body (C := cx [] 12) fits (fn := Tryd.f32) Tryd.func32 rfl (by decide) (by decide) (gI ?_)
    repeat' (first | refine fR ?_ (h6 := underN0 m) | ((first | refine C_r ?_ | refine C0_r ?_ | refine O_r ?_ | refine R_r ?_); (conv => whnf); first | (refine ⟨fun hb => ?_, fun hb => ?_⟩ <;> try exact no_way) | refine A_o ?_ | refine B_o ?_ | refine C_o ?_ | refine R_o ?_ | refine fR ?_ | refine fRk ?_ | refine F_o ?_) | refine C_l (c1) ?_ | refine fun k => WL.crp [0] [Ob.map (ents encN m)] _ _ c3 (oW ?_ _) (underN0 m) (underR0 m) | refine SA_l ?_ | refine V_l ?_ | refine L_l ?_ | refine Q_l ?_ | refine X_l ?_ | refine Xa_l ?_ | refine Xs_l ?_ | refine K_l ?_ | refine Ka_l ?_ | refine Lk_l ?_ | refine Up_l ?_ | refine Del_l ?_ | refine St_l ?_ | refine LU_l ?_ | refine Xw_l ?_ | refine Le_l ?_ | refine Se_l ?_ | refine M_l ?_ | refine A_l ?_ | refine A0_l ?_ | refine A1_l ?_ | refine Mk_l ?_ | refine Kz_l ?_ | refine W_l ?_ | fail)
    exact ⟨rfl, rfl⟩
  | false =>
    rw [hn] at c1
    rw [if_neg (by decide)]
    obtain ⟨kd, o, nm, u, l⟩ := e
    refine Spec.body (C := cx [] 12) fits (fn := Tryd.f32) Tryd.func32 rfl (by decide) (by decide) (gI ?_)
    repeat' (first | refine fR ?_ (h6 := underN0 m) | ((first | refine C_r ?_ | refine C0_r ?_ | refine O_r ?_ | refine R_r ?_); (conv => whnf); first | (refine ⟨fun hb => ?_, fun hb => ?_⟩ <;> try exact no_way) | refine A_o ?_ | refine B_o ?_ | refine C_o ?_ | refine R_o ?_ | refine fR ?_ | refine fRk ?_ | refine F_o ?_) | refine C_l (c1) ?_ | refine SA_l ?_ | refine V_l ?_ | refine L_l ?_ | refine Q_l ?_ | refine X_l ?_ | refine Xa_l ?_ | refine Xs_l ?_ | refine K_l ?_ | refine Ka_l ?_ | refine Lk_l ?_ | refine Up_l ?_ | refine Del_l ?_ | refine St_l ?_ | refine LU_l ?_ | refine Xw_l ?_ | refine Le_l ?_ | refine Se_l ?_ | refine M_l ?_ | refine A_l ?_ | refine A0_l ?_ | refine A1_l ?_ | refine Mk_l ?_ | refine Kz_l ?_ | refine W_l ?_ | fail)
    exact ⟨rfl, rfl⟩
end Go.Proofs.YtjjhckmnnaafkaaDoor
namespace Go.Proofs.YtjjhckmnnaafkaaDoor
open Go Go.Am Go.Proofs
attribute [local irreducible] W WL DL WO RoundEnd
set_option maxRecDepth 10000
set_option maxHeartbeats 4000000
def u64row (x : Int) : List D := [.sc (.int .u64 x)]
/-- what all defines stand for -/
def tableF : KM → List Int → Nat → List Def → (List Int × Int) × Int
  | _, out, _, [] => ((out, -1), 0)
  | m, out, j, d :: r => match fk d.name m 0 with
    | some _ => (([], (j : Int)), 8)
    | none => if (cofF m d.expr).2 = 0 then tableF (m ++ [(d.name, cofF m d.expr)]) (out ++ [(cofF m d.expr).1]) (j + 1) r else (([], (j : Int)), (cofF m d.expr).2)
theorem trimI {n : Nat} {e : Env} {σ : St} (h1 : (e.all fun p => p.2.under (alive (σ.take n))) = true) (h2 : ((σ.take n).all fun o => o.under (alive (σ.take n))) = true) : trims n e σ = true := by
  rw [trims, h1, h2]; rfl
end Go.Proofs.YtjjhckmnnaafkaaDoor
namespace Go.Proofs.YtjjhckmnnaafkaaDoor
open Go Go.Am Go.Proofs
attribute [local irreducible] W WL DL WO RoundEnd
set_option maxRecDepth 10000
set_option maxHeartbeats 4000000
def learnF : KM → List Def → KM
  | m, [] => m
  | m, d :: r => match fk d.name m 0 with
    | some _ => learnF m r
    | none => learnF (m ++ [(d.name, cofF m d.expr)]) r
theorem trimM {n : Nat} {e : Env} {σ : St} (h1 : (e.all fun p => p.2.under (alive (σ.take n))) = true) (h2 : ((σ.take n).all fun o => o.under (alive (σ.take n))) = true) : trims n e σ = true := by
  rw [trims, h1, h2]; rfl
theorem underM {E : List (Value × Am.FV)} (h : ∀ L, (E.all fun x => x.2.under L) = true) : ([Ob.map E].all fun o => o.under (alive [Ob.map E])) = true := by
  simp only [List.all_cons, List.all_nil, Ob.under, h _, Bool.and_true]
theorem learnR (l : List Def) (hl : l.length < 2 ^ 40) (hn : ∀ d ∈ l, d.expr.nok) : Am.Spec Tryd.prog 90 [lst Def.row l] [] (fun v s => v = .one (.map 0) ∧ s = [.map (ents encN (learnF [] l))]) := by
  generalize hfb : learnF [] l = fb
  refine Spec.body (C := cx [] 33) fits (fn := Tryd.f90) Tryd.func90 rfl (by decide) (by decide) (gI ?_)
  refine STD wz ?_ <;> (repeat' (first | exact Wl.mk | refine wy1 ?_ ?_)) <;> repeat (intro hb; have hx := wy5 hb; clear hx)
  refine wLoop [3, 9, 10, 11] 1 (l.length + 1) ?_
  refine (fun key => key l [] _ [] rfl rfl hfb.symm :
    (∀ (rest done : List Def) (j : Int) (m : KM), l = done ++ rest → j = done.length → fb = learnF m rest →
    WR2 _ _ _ _ _ (rest.length + 1) [(3, .one (.map 0)), (9, lst Def.row l), (10, int .i64 (l.map Def.row).length), (11, int .i64 j)] [.map (ents encN m)]) → _) ?_
  intro rest
  induction rest with
  | nil =>
    intro done j m h1 hj hr
    have hlen : l.length = done.length := by rw [h1]; simp
    have hr : fb = m := hr
    subst hr
    refine wR (gI ?_)
    repeat' (first | refine fR' ?_ | ((first | refine C_r ?_ | refine C0_r ?_ | refine O_r ?_ | refine R_r ?_); (conv => whnf); first | (refine ⟨fun hb => ?_, fun hb => ?_⟩ <;> try exact no_way) | refine A_o ?_ | refine B_o ?_ | refine C_o ?_ | refine R_o ?_ | refine fR' ?_ | refine F_o ?_) | refine SA_l ?_ | refine V_l ?_ | refine L_l ?_ | refine Q_l ?_ | refine X_l ?_ | refine Xa_l ?_ | refine Xs_l ?_ | refine K_l ?_ | refine Ka_l ?_ | refine Lk_l ?_ | refine Up_l ?_ | refine Del_l ?_ | refine St_l ?_ | refine LU_l ?_ | refine Xw_l ?_ | refine Le_l ?_ | refine Se_l ?_ | refine M_l ?_ | refine A_l ?_ | refine A0_l ?_ | refine A1_l ?_ | refine Mk_l ?_ | refine Kz_l ?_ | refine W_l ?_ | refine SA_d ?_ | refine V_d ?_ | refine L_d ?_ | refine Q_d ?_ | refine X_d ?_ | refine Xs_d ?_ | refine K_d ?_ | refine Ka_d ?_ | refine Lk_d ?_ | refine Up_d ?_ | refine A_d ?_ | refine A0_d ?_ | refine St_d ?_ | refine LU_d ?_ | refine Xw_d ?_ | refine Le_d ?_ | refine Se_d ?_ | refine M_d ?_ | refine Mk_d ?_ | refine N_d ?_ | refine Kz_d ?_ | refine W_d ?_ | fail)
    exact ⟨rfl, rfl⟩
  | cons x rest ih =>
    intro done j m h1 hj hr
    have hlen : l.length = done.length + (rest.length + 1) := by rw [h1]; simp
    have gx := at_mid (f := Def.row) h1 hj
    have hc := cofR0 m x.expr (hn x (by rw [h1]; simp))
    have hj1 : IntKind.wrap .i64 (j + 1) = ((done ++ [x]).length : Int) := by rw [wrap_ok (by omega) (by omega)]; simp [hj]
    have hl1 : l = (done ++ [x]) ++ rest := by rw [h1]; simp
    rw [learnF] at hr
    rcases hk : fk x.name m 0 with _ | ⟨i1, k1⟩
    · rw [hk] at hr
      have hk2 : findKey (.string x.name) (ents encN m) 0 = some none := by rw [findKey_ents, hk]; rfl
      generalize cofF m x.expr = q at hc hr
      obtain ⟨q1, q2⟩ := q
      obtain ⟨xn, ⟨xk, xo, xm, xu, xl⟩⟩ := x
      have g := ih _ _ (m ++ [(xn, (q1, q2))]) hl1 hj1 hr
      rw [ents_append] at g
      refine wR (gI ?_)
      repeat' (first | ((first | refine C_r ?_ | refine C0_r ?_ | refine O_r ?_ | refine R_r ?_); (conv => whnf); first | (refine ⟨fun hb => ?_, fun hb => ?_⟩ <;> try exact no_way) | refine A_o ?_ | refine B_o ?_ | refine C_o ?_ | refine R_o ?_ | refine fR ?_ | refine fRk ?_ | refine F_o ?_) | refine SA_l ?_ | refine V_l ?_ | refine L_l ?_ | refine Q_l ?_ | refine X_l ?_ | refine Xa_l ?_ | refine Xs_l ?_ | refine K_l ?_ | refine Ka_l ?_ | refine Lk_l ?_ | refine Up_l ?_ | refine Del_l ?_ | refine St_l ?_ | refine LU_l ?_ | refine Xw_l ?_ | refine Le_l ?_ | refine Se_l ?_ | refine M_l ?_ | refine A_l ?_ | refine A0_l ?_ | refine A1_l ?_ | refine Mk_l ?_ | refine Kz_l ?_ | refine W_l ?_ | refine fun k => DL.crp [0] [Ob.map (ents encN m)] _ _ hc (oD ?_ _) (underN0 m) (underR0 m) | refine SA_d ?_ | refine V_d ?_ | refine L_d ?_ | refine Q_d ?_ | refine X_d ?_ | refine Xs_d ?_ | refine K_d ?_ | refine Ka_d ?_ | refine Lk_d ?_ | refine Up_d ?_ | refine A_d ?_ | refine A0_d ?_ | refine St_d ?_ | refine LU_d ?_ | refine Xw_d ?_ | refine Le_d ?_ | refine Se_d ?_ | refine M_d ?_ | refine Mk_d ?_ | refine N_d ?_ | refine Kz_d ?_ | refine W_d ?_ | fail)
      all_goals exact rE g (ht := trimM rfl (underM (by intro L; simp only [mapSet, List.all_append, pureN, List.all_cons, List.all_nil]; rfl)))
    · rw [hk] at hr
      obtain ⟨k11, k12⟩ := k1
      have hk2 : findKey (.string x.name) (ents encN m) 0 = some (some (i1, encN (k11, k12))) := by rw [findKey_ents, hk]; rfl
      obtain ⟨xn, ⟨xk, xo, xm, xu, xl⟩⟩ := x
      have g := ih _ _ m hl1 hj1 hr
      refine wR (gI ?_)
      refine STD wz ?_ <;> (repeat' (first | exact Wl.mk | refine wy1 ?_ ?_)) <;> repeat (intro hb; have hx := wy5 hb; clear hx)
      all_goals exact rE g (ht := trimM rfl (underM (pureN m)))
theorem constR (l : List Def) (e : Ex) (hl : l.length < 2 ^ 40) (hn : ∀ d ∈ l, d.expr.nok) (he : e.nok) : Comp Tryd.prog 82 [lst Def.row l, .agg (e.row.map .d)] (.tup [.one (.d (.sc (.int .u64 (cofF (learnF [] l) e).1))), .one (.d (.sc (.int .i64 (cofF (learnF [] l) e).2)))]) := by
  have c1 := Spec.dead 1 (learnR l hl hn) rfl (by rintro _ _ ⟨_, rfl⟩; simp)
  have c2 := cofR0 (learnF [] l) e he
  generalize learnF [] l = m at *
  generalize cofF m e = q at *
  obtain ⟨q1, q2⟩ := q
  obtain ⟨xk, xo, xm, xu, xl⟩ := e
  refine Spec.body (C := cx [] 15) fits (fn := Tryd.f82) Tryd.func82 rfl (by decide) (by decide) (gI ?_)
  refine gRoom ?_
  repeat' (first | ((first | refine C_r ?_ | refine C0_r ?_ | refine O_r ?_ | refine R_r ?_); (conv => whnf); first | (refine ⟨fun hb => ?_, fun hb => ?_⟩ <;> try exact no_way) | refine A_o ?_ | refine B_o ?_ | refine C_o ?_ | refine R_o ?_ | refine fR ?_ | refine fRk ?_ | refine F_o ?_) | refine SA_l ?_ | refine V_l ?_ | refine L_l ?_ | refine Q_l ?_ | refine X_l ?_ | refine Xa_l ?_ | refine Xs_l ?_ | refine K_l ?_ | refine Ka_l ?_ | refine Lk_l ?_ | refine Up_l ?_ | refine Del_l ?_ | refine St_l ?_ | refine LU_l ?_ | refine Xw_l ?_ | refine Le_l ?_ | refine Se_l ?_ | refine M_l ?_ | refine A_l ?_ | refine A0_l ?_ | refine A1_l ?_ | refine Mk_l ?_ | refine Kz_l ?_ | refine W_l ?_ | refine fun k => DL.crp [0] [Ob.dead] _ _ c1 (oD ?_ _) rfl (underR0 m) | refine fun k => DL.crp [0] [Ob.map (ents encN m)] _ _ c2 (oD ?_ _) (underN0 m) (underR0 m) | refine SA_d ?_ | refine V_d ?_ | refine L_d ?_ | refine Q_d ?_ | refine X_d ?_ | refine Xs_d ?_ | refine K_d ?_ | refine Ka_d ?_ | refine Lk_d ?_ | refine Up_d ?_ | refine A_d ?_ | refine A0_d ?_ | refine St_d ?_ | refine LU_d ?_ | refine Xw_d ?_ | refine Le_d ?_ | refine Se_d ?_ | refine M_d ?_ | refine Mk_d ?_ | refine N_d ?_ | refine Kz_d ?_ | refine W_d ?_ | fail)
  all_goals exact ⟨rfl, rfl⟩
end Go.Proofs.YtjjhckmnnaafkaaDoor
