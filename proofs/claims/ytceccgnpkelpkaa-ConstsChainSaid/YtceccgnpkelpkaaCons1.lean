/- A part of a proof: functions of the program, walked over the abstract machine. -/
import Derived.Test.YtceccgnpkelpkaaTree4
import Derived.Test.YtceccgnpkelpkaaAssoc
import Derived.Test.YtceccgnpkelpkaaUnit
set_option linter.unusedVariables false
set_option linter.unusedSimpArgs false
namespace Go.Proofs.Ytceccgnpkelpkaa
open Go Go.Am Go.Proofs
attribute [local irreducible] W WL DL WO RoundEnd
set_option maxRecDepth 10000
set_option maxHeartbeats 4000000
/-- what is known of a name: its number, or why there is none -/
abbrev KM := List (ByteArray × (Int × Int))
def encN (p : Int × Int) : Am.FV := .agg [.d (.sc (.int .u64 p.1)), .d (.sc (.int .i64 p.2))]
def knV (p : Int × Int) : V := .agg [.d (.sc (.int .u64 p.1)), .d (.sc (.int .i64 p.2))]
theorem pureN (m : KM) (L : Nat → Bool) : ((ents encN m).all fun x => x.2.under L) = true := by
  simp only [ents, List.all_map, List.all_eq_true]; intro x _; rfl
theorem one_kind {e : Ex} (h : oneF e = true) : e.kind = 7 ∨ e.kind = 5 := by
  have := whatF_in e
  unfold oneF at h
  cases hw : whatF e <;> rw [hw] at h this <;> simp_all
def or64 (a b : Int) : Int := IntKind.wrap .u64 ((BitVec.ofInt IntKind.u64.bits a ||| BitVec.ofInt IntKind.u64.bits b).toNat : Int)
theorem or64_comm (a b : Int) : or64 a b = or64 b a := by rw [or64, or64, BitVec.or_comm]
/-- a number's value, by what is known -/
def cvalF (m : KM) : Nat → Ex → Int × Int
  | 0, _ => (0, 0)
  | n + 1, .mk kd _ nm u l => if kd = 7 then (u, 0) else if kd = 8 then (match l with
      | [x, y] => if (cvalF m n x).2 = 0 then (if (cvalF m n y).2 = 0 then (or64 (cvalF m n x).1 (cvalF m n y).1, 0) else cvalF m n y) else cvalF m n x
      | _ => (0, 0)) else match fk nm m 0 with
      | none => (0, 7)
      | some (_, k) => k
def cofF (m : KM) (e : Ex) : Int × Int := if numF (e.size + 1) e = true then cvalF m (e.size + 1) e else (0, 1)
theorem underN0 (m : KM) : ([Ob.map (ents encN m)].all fun o => o.under (alive [Ob.map (ents encN m)])) = true := by
  simp only [List.all_cons, List.all_nil, Ob.under, pureN m _, Bool.and_true]
theorem underR0 (m : KM) : ([Ob.map (ents encN m)].all fun o => o.under (Am.inR [0])) = true := by
  simp only [List.all_cons, List.all_nil, Ob.under, pureN m _, Bool.and_true]
theorem cval70 (m : KM) (o nm : ByteArray) (u : Int) (l : List Ex) : Am.Spec Try.prog 65 [.one (.map 0), .agg ((Ex.mk 7 o nm u l).row.map .d)] [Ob.map (ents encN m)] (fun v s => v = knV (u, 0) ∧ s = [Ob.map (ents encN m)]) := by
  refine Spec.body (C := cx [] 55) fits (fn := Try.f65) Try.func65 rfl (by decide) (by decide) (gI ?_)
  repeat' (first | refine fR ?_ (h6 := underN0 m) | ((first | refine C_r ?_ | refine C0_r ?_ | refine O_r ?_ | refine R_r ?_); (conv => whnf); first | (refine ⟨fun hb => ?_, fun hb => ?_⟩ <;> try exact no_way) | refine A_o ?_ | refine B_o ?_ | refine C_o ?_ | refine R_o ?_ | refine fR ?_ | refine fRk ?_ | refine F_o ?_) | refine SA_l ?_ | refine L_l ?_ | refine Q_l ?_ | refine X_l ?_ | refine Xa_l ?_ | refine Xs_l ?_ | refine K_l ?_ | refine Ka_l ?_ | refine Lk_l ?_ | refine Up_l ?_ | refine Del_l ?_ | refine St_l ?_ | refine LU_l ?_ | refine Xw_l ?_ | refine Le_l ?_ | refine Se_l ?_ | refine M_l ?_ | refine A_l ?_ | refine A0_l ?_ | refine A1_l ?_ | refine Mk_l ?_ | refine V_l ?_ | refine Kz_l ?_ | refine W_l ?_ | fail)
  exact ⟨rfl, rfl⟩
theorem cval50 (m : KM) (o nm : ByteArray) (u : Int) (l : List Ex) : Am.Spec Try.prog 65 [.one (.map 0), .agg ((Ex.mk 5 o nm u l).row.map .d)] [Ob.map (ents encN m)]
    (fun v s => v = knV (match fk nm m 0 with | none => (0, 7) | some (_, k) => k) ∧ s = [Ob.map (ents encN m)]) := by
  rcases h1 : fk nm m 0 with _ | ⟨i1, k1, k2⟩
  · have hk : findKey (.string nm) (ents encN m) 0 = some none := by rw [findKey_ents, h1]; rfl
    refine Spec.body (C := cx [] 55) fits (fn := Try.f65) Try.func65 rfl (by decide) (by decide) (gI ?_)
    repeat' (first | refine fR ?_ (h6 := underN0 m) | ((first | refine C_r ?_ | refine C0_r ?_ | refine O_r ?_ | refine R_r ?_); (conv => whnf); first | (refine ⟨fun hb => ?_, fun hb => ?_⟩ <;> try exact no_way) | refine A_o ?_ | refine B_o ?_ | refine C_o ?_ | refine R_o ?_ | refine fR ?_ | refine fRk ?_ | refine F_o ?_) | refine SA_l ?_ | refine L_l ?_ | refine Q_l ?_ | refine X_l ?_ | refine Xa_l ?_ | refine Xs_l ?_ | refine K_l ?_ | refine Ka_l ?_ | refine Lk_l ?_ | refine Up_l ?_ | refine Del_l ?_ | refine St_l ?_ | refine LU_l ?_ | refine Xw_l ?_ | refine Le_l ?_ | refine Se_l ?_ | refine M_l ?_ | refine A_l ?_ | refine A0_l ?_ | refine A1_l ?_ | refine Mk_l ?_ | refine V_l ?_ | refine Kz_l ?_ | refine W_l ?_ | fail)
    exact ⟨rfl, rfl⟩
  · have hk : findKey (.string nm) (ents encN m) 0 = some (some (i1, encN (k1, k2))) := by rw [findKey_ents, h1]; rfl
    refine Spec.body (C := cx [] 55) fits (fn := Try.f65) Try.func65 rfl (by decide) (by decide) (gI ?_)
    repeat' (first | refine fR ?_ (h6 := underN0 m) | ((first | refine C_r ?_ | refine C0_r ?_ | refine O_r ?_ | refine R_r ?_); (conv => whnf); first | (refine ⟨fun hb => ?_, fun hb => ?_⟩ <;> try exact no_way) | refine A_o ?_ | refine B_o ?_ | refine C_o ?_ | refine R_o ?_ | refine fR ?_ | refine fRk ?_ | refine F_o ?_) | refine SA_l ?_ | refine L_l ?_ | refine Q_l ?_ | refine X_l ?_ | refine Xa_l ?_ | refine Xs_l ?_ | refine K_l ?_ | refine Ka_l ?_ | refine Lk_l ?_ | refine Up_l ?_ | refine Del_l ?_ | refine St_l ?_ | refine LU_l ?_ | refine Xw_l ?_ | refine Le_l ?_ | refine Se_l ?_ | refine M_l ?_ | refine A_l ?_ | refine A0_l ?_ | refine A1_l ?_ | refine Mk_l ?_ | refine V_l ?_ | refine Kz_l ?_ | refine W_l ?_ | fail)
    exact ⟨rfl, rfl⟩
theorem cval80 (m : KM) (o nm : ByteArray) (u : Int) (x y : Ex) (a b : Int × Int)
    (hx : Am.Spec Try.prog 65 [.one (.map 0), .agg (x.row.map .d)] [Ob.map (ents encN m)] (fun v s => v = knV a ∧ s = [Ob.map (ents encN m)]))
    (hy : Am.Spec Try.prog 65 [.one (.map 0), .agg (y.row.map .d)] [Ob.map (ents encN m)] (fun v s => v = knV b ∧ s = [Ob.map (ents encN m)])) :
    Am.Spec Try.prog 65 [.one (.map 0), .agg ((Ex.mk 8 o nm u [x, y]).row.map .d)] [Ob.map (ents encN m)]
    (fun v s => v = knV (if a.2 = 0 then (if b.2 = 0 then (or64 a.1 b.1, 0) else b) else a) ∧ s = [Ob.map (ents encN m)]) := by
  obtain ⟨k1, o1, n1, u1, l1⟩ := x
  obtain ⟨k2, o2, n2, u2, l2⟩ := y
  obtain ⟨a1, a2⟩ := a
  obtain ⟨b1, b2⟩ := b
  refine Spec.body (C := cx [] 55) fits (fn := Try.f65) Try.func65 rfl (by decide) (by decide) (gI ?_)
  repeat' (first | refine fR ?_ (h6 := underN0 m) | ((first | refine C_r ?_ | refine C0_r ?_ | refine O_r ?_ | refine R_r ?_); (conv => whnf); first | (refine ⟨fun hb => ?_, fun hb => ?_⟩ <;> try exact no_way) | refine A_o ?_ | refine B_o ?_ | refine C_o ?_ | refine R_o ?_ | refine fR ?_ | refine fRk ?_ | refine F_o ?_) | refine fun k => WL.crp [0] [Ob.map (ents encN m)] _ _ hx (oW ?_ _) (underN0 m) (underR0 m) | refine fun k => WL.crp [0] [Ob.map (ents encN m)] _ _ hy (oW ?_ _) (underN0 m) (underR0 m) | refine SA_l ?_ | refine L_l ?_ | refine Q_l ?_ | refine X_l ?_ | refine Xa_l ?_ | refine Xs_l ?_ | refine K_l ?_ | refine Ka_l ?_ | refine Lk_l ?_ | refine Up_l ?_ | refine Del_l ?_ | refine St_l ?_ | refine LU_l ?_ | refine Xw_l ?_ | refine Le_l ?_ | refine Se_l ?_ | refine M_l ?_ | refine A_l ?_ | refine A0_l ?_ | refine A1_l ?_ | refine Mk_l ?_ | refine V_l ?_ | refine Kz_l ?_ | refine W_l ?_ | fail)
  · have h1 : ¬ a2 = 0 := by simpa using hb
    exact ⟨by simp only [if_neg h1]; rfl, rfl⟩
  · have h1 : a2 = 0 := by
      have h : (!(a2 == 0)) = false := by assumption
      simpa using h
    have h2 : ¬ b2 = 0 := by simpa using hb
    exact ⟨by simp only [if_pos h1, if_neg h2]; rfl, rfl⟩
  · have h1 : a2 = 0 := by
      have h : (!(a2 == 0)) = false := by assumption
      simpa using h
    have h2 : b2 = 0 := by simpa using hb
    exact ⟨by simp only [if_pos h1, if_pos h2]; rfl, rfl⟩
theorem cvalR0 (m : KM) : ∀ (n : Nat) (e : Ex), e.size < n → numF n e = true → Am.Spec Try.prog 65 [.one (.map 0), .agg (e.row.map .d)] [Ob.map (ents encN m)] (fun v s => v = knV (cvalF m n e) ∧ s = [Ob.map (ents encN m)]) := by
  intro n
  induction n with
  | zero => intro e h; omega
  | succ n IH =>
  intro e hs hn
  rw [numF] at hn
  have hin := whatF_in e
  have hok := one_kind (e := e)
  obtain ⟨kd, o, nm, u, l⟩ := e
  by_cases h8 : kd = 8
  · subst h8
    rw [if_pos (show (Ex.mk 8 o nm u l).kind = 8 from rfl)] at hn
    cases hw : whatF (.mk 8 o nm u l) with
    | pr x y =>
      rw [hw] at hin hn
      have hl : l = [x, y] := hin.2
      subst hl
      simp only [Bool.and_eq_true] at hn
      simp only [Ex.size, Ex.sizes] at hs
      have hy : numF n y = true := by
        cases n with
        | zero => omega
        | succ n =>
          rw [numF, if_neg (by rcases one_kind hn.1 with h | h <;> rw [h] <;> decide)]
          exact hn.1
      have c1 := IH x (by omega) hn.2
      have c2 := IH y (by omega) hy
      have g := cval80 m o nm u x y _ _ c1 c2
      exact g
    | none => rw [hw] at hn; simp at hn
    | num => rw [hw] at hn; simp at hn
    | nam => rw [hw] at hn; simp at hn
    | msk x => rw [hw] at hn; simp at hn
    | sg x => rw [hw] at hn; simp at hn
  · rw [if_neg (show ¬ (Ex.mk kd o nm u l).kind = 8 from h8)] at hn
    rcases hok hn with h | h
    · have h' : kd = 7 := h
      subst h'
      exact cval70 m o nm u l
    · have h' : kd = 5 := h
      subst h'
      exact cval50 m o nm u l
theorem cofR0 (m : KM) (e : Ex) (h : e.nok) : Am.Spec Try.prog 46 [.one (.map 0), .agg (e.row.map .d)] [Ob.map (ents encN m)] (fun v s => v = knV (cofF m e) ∧ s = [Ob.map (ents encN m)]) := by
  have c1 := numberR (e.size + 1) e (Nat.lt_succ_self _) h
  have c2 := cvalR0 m (e.size + 1) e (Nat.lt_succ_self _)
  unfold cofF
  cases hn : numF (e.size + 1) e with
  | true =>
    rw [hn] at c1
    have c3 := c2 hn
    rw [if_pos rfl]
    generalize cvalF m (e.size + 1) e = q at c3
    obtain ⟨kd, o, nm, u, l⟩ := e
    obtain ⟨q1, q2⟩ := q
    refine Spec.body (C := cx [] 12) fits (fn := Try.f46) Try.func46 rfl (by decide) (by decide) (gI ?_)
    repeat' (first | refine fR ?_ (h6 := underN0 m) | ((first | refine C_r ?_ | refine C0_r ?_ | refine O_r ?_ | refine R_r ?_); (conv => whnf); first | (refine ⟨fun hb => ?_, fun hb => ?_⟩ <;> try exact no_way) | refine A_o ?_ | refine B_o ?_ | refine C_o ?_ | refine R_o ?_ | refine fR ?_ | refine fRk ?_ | refine F_o ?_) | refine C_l (c1) ?_ | refine fun k => WL.crp [0] [Ob.map (ents encN m)] _ _ c3 (oW ?_ _) (underN0 m) (underR0 m) | refine SA_l ?_ | refine L_l ?_ | refine Q_l ?_ | refine X_l ?_ | refine Xa_l ?_ | refine Xs_l ?_ | refine K_l ?_ | refine Ka_l ?_ | refine Lk_l ?_ | refine Up_l ?_ | refine Del_l ?_ | refine St_l ?_ | refine LU_l ?_ | refine Xw_l ?_ | refine Le_l ?_ | refine Se_l ?_ | refine M_l ?_ | refine A_l ?_ | refine A0_l ?_ | refine A1_l ?_ | refine Mk_l ?_ | refine V_l ?_ | refine Kz_l ?_ | refine W_l ?_ | fail)
    exact ⟨rfl, rfl⟩
  | false =>
    rw [hn] at c1
    rw [if_neg (by decide)]
    obtain ⟨kd, o, nm, u, l⟩ := e
    refine Spec.body (C := cx [] 12) fits (fn := Try.f46) Try.func46 rfl (by decide) (by decide) (gI ?_)
    repeat' (first | refine fR ?_ (h6 := underN0 m) | ((first | refine C_r ?_ | refine C0_r ?_ | refine O_r ?_ | refine R_r ?_); (conv => whnf); first | (refine ⟨fun hb => ?_, fun hb => ?_⟩ <;> try exact no_way) | refine A_o ?_ | refine B_o ?_ | refine C_o ?_ | refine R_o ?_ | refine fR ?_ | refine fRk ?_ | refine F_o ?_) | refine C_l (c1) ?_ | refine SA_l ?_ | refine L_l ?_ | refine Q_l ?_ | refine X_l ?_ | refine Xa_l ?_ | refine Xs_l ?_ | refine K_l ?_ | refine Ka_l ?_ | refine Lk_l ?_ | refine Up_l ?_ | refine Del_l ?_ | refine St_l ?_ | refine LU_l ?_ | refine Xw_l ?_ | refine Le_l ?_ | refine Se_l ?_ | refine M_l ?_ | refine A_l ?_ | refine A0_l ?_ | refine A1_l ?_ | refine Mk_l ?_ | refine V_l ?_ | refine Kz_l ?_ | refine W_l ?_ | fail)
    exact ⟨rfl, rfl⟩
theorem underN1 (ep : Nat) (rows : List (List D)) (m : KM) : ([Ob.arr ep true 6 rows, .map (ents encN m)].all fun o => o.under (alive [Ob.arr ep true 6 rows, .map (ents encN m)])) = true := by
  simp only [List.all_cons, List.all_nil, Ob.under, pureN m _, Bool.and_true]
theorem underR1 (ep : Nat) (rows : List (List D)) (m : KM) : ([Ob.arr ep true 6 rows, .map (ents encN m)].all fun o => o.under (Am.inR [0, 1])) = true := by
  simp only [List.all_cons, List.all_nil, Ob.under, pureN m _, Bool.and_true]
theorem cval71 (ep : Nat) (rows : List (List D)) (m : KM) (o nm : ByteArray) (u : Int) (l : List Ex) : Am.Spec Try.prog 65 [.one (.map 1), .agg ((Ex.mk 7 o nm u l).row.map .d)] [Ob.arr ep true 6 rows, .map (ents encN m)] (fun v s => v = knV (u, 0) ∧ s = [Ob.arr ep true 6 rows, .map (ents encN m)]) := by
  refine Spec.body (C := cx [] 55) fits (fn := Try.f65) Try.func65 rfl (by decide) (by decide) (gI ?_)
  repeat' (first | refine fR ?_ (h6 := underN1 ep rows m) | ((first | refine C_r ?_ | refine C0_r ?_ | refine O_r ?_ | refine R_r ?_); (conv => whnf); first | (refine ⟨fun hb => ?_, fun hb => ?_⟩ <;> try exact no_way) | refine A_o ?_ | refine B_o ?_ | refine C_o ?_ | refine R_o ?_ | refine fR ?_ | refine fRk ?_ | refine F_o ?_) | refine SA_l ?_ | refine L_l ?_ | refine Q_l ?_ | refine X_l ?_ | refine Xa_l ?_ | refine Xs_l ?_ | refine K_l ?_ | refine Ka_l ?_ | refine Lk_l ?_ | refine Up_l ?_ | refine Del_l ?_ | refine St_l ?_ | refine LU_l ?_ | refine Xw_l ?_ | refine Le_l ?_ | refine Se_l ?_ | refine M_l ?_ | refine A_l ?_ | refine A0_l ?_ | refine A1_l ?_ | refine Mk_l ?_ | refine V_l ?_ | refine Kz_l ?_ | refine W_l ?_ | fail)
  exact ⟨rfl, rfl⟩
theorem cval51 (ep : Nat) (rows : List (List D)) (m : KM) (o nm : ByteArray) (u : Int) (l : List Ex) : Am.Spec Try.prog 65 [.one (.map 1), .agg ((Ex.mk 5 o nm u l).row.map .d)] [Ob.arr ep true 6 rows, .map (ents encN m)]
    (fun v s => v = knV (match fk nm m 0 with | none => (0, 7) | some (_, k) => k) ∧ s = [Ob.arr ep true 6 rows, .map (ents encN m)]) := by
  rcases h1 : fk nm m 0 with _ | ⟨i1, k1, k2⟩
  · have hk : findKey (.string nm) (ents encN m) 0 = some none := by rw [findKey_ents, h1]; rfl
    refine Spec.body (C := cx [] 55) fits (fn := Try.f65) Try.func65 rfl (by decide) (by decide) (gI ?_)
    repeat' (first | refine fR ?_ (h6 := underN1 ep rows m) | ((first | refine C_r ?_ | refine C0_r ?_ | refine O_r ?_ | refine R_r ?_); (conv => whnf); first | (refine ⟨fun hb => ?_, fun hb => ?_⟩ <;> try exact no_way) | refine A_o ?_ | refine B_o ?_ | refine C_o ?_ | refine R_o ?_ | refine fR ?_ | refine fRk ?_ | refine F_o ?_) | refine SA_l ?_ | refine L_l ?_ | refine Q_l ?_ | refine X_l ?_ | refine Xa_l ?_ | refine Xs_l ?_ | refine K_l ?_ | refine Ka_l ?_ | refine Lk_l ?_ | refine Up_l ?_ | refine Del_l ?_ | refine St_l ?_ | refine LU_l ?_ | refine Xw_l ?_ | refine Le_l ?_ | refine Se_l ?_ | refine M_l ?_ | refine A_l ?_ | refine A0_l ?_ | refine A1_l ?_ | refine Mk_l ?_ | refine V_l ?_ | refine Kz_l ?_ | refine W_l ?_ | fail)
    exact ⟨rfl, rfl⟩
  · have hk : findKey (.string nm) (ents encN m) 0 = some (some (i1, encN (k1, k2))) := by rw [findKey_ents, h1]; rfl
    refine Spec.body (C := cx [] 55) fits (fn := Try.f65) Try.func65 rfl (by decide) (by decide) (gI ?_)
    repeat' (first | refine fR ?_ (h6 := underN1 ep rows m) | ((first | refine C_r ?_ | refine C0_r ?_ | refine O_r ?_ | refine R_r ?_); (conv => whnf); first | (refine ⟨fun hb => ?_, fun hb => ?_⟩ <;> try exact no_way) | refine A_o ?_ | refine B_o ?_ | refine C_o ?_ | refine R_o ?_ | refine fR ?_ | refine fRk ?_ | refine F_o ?_) | refine SA_l ?_ | refine L_l ?_ | refine Q_l ?_ | refine X_l ?_ | refine Xa_l ?_ | refine Xs_l ?_ | refine K_l ?_ | refine Ka_l ?_ | refine Lk_l ?_ | refine Up_l ?_ | refine Del_l ?_ | refine St_l ?_ | refine LU_l ?_ | refine Xw_l ?_ | refine Le_l ?_ | refine Se_l ?_ | refine M_l ?_ | refine A_l ?_ | refine A0_l ?_ | refine A1_l ?_ | refine Mk_l ?_ | refine V_l ?_ | refine Kz_l ?_ | refine W_l ?_ | fail)
    exact ⟨rfl, rfl⟩
theorem cval81 (ep : Nat) (rows : List (List D)) (m : KM) (o nm : ByteArray) (u : Int) (x y : Ex) (a b : Int × Int)
    (hx : Am.Spec Try.prog 65 [.one (.map 1), .agg (x.row.map .d)] [Ob.arr ep true 6 rows, .map (ents encN m)] (fun v s => v = knV a ∧ s = [Ob.arr ep true 6 rows, .map (ents encN m)]))
    (hy : Am.Spec Try.prog 65 [.one (.map 1), .agg (y.row.map .d)] [Ob.arr ep true 6 rows, .map (ents encN m)] (fun v s => v = knV b ∧ s = [Ob.arr ep true 6 rows, .map (ents encN m)])) :
    Am.Spec Try.prog 65 [.one (.map 1), .agg ((Ex.mk 8 o nm u [x, y]).row.map .d)] [Ob.arr ep true 6 rows, .map (ents encN m)]
    (fun v s => v = knV (if a.2 = 0 then (if b.2 = 0 then (or64 a.1 b.1, 0) else b) else a) ∧ s = [Ob.arr ep true 6 rows, .map (ents encN m)]) := by
  obtain ⟨k1, o1, n1, u1, l1⟩ := x
  obtain ⟨k2, o2, n2, u2, l2⟩ := y
  obtain ⟨a1, a2⟩ := a
  obtain ⟨b1, b2⟩ := b
  refine Spec.body (C := cx [] 55) fits (fn := Try.f65) Try.func65 rfl (by decide) (by decide) (gI ?_)
  repeat' (first | refine fR ?_ (h6 := underN1 ep rows m) | ((first | refine C_r ?_ | refine C0_r ?_ | refine O_r ?_ | refine R_r ?_); (conv => whnf); first | (refine ⟨fun hb => ?_, fun hb => ?_⟩ <;> try exact no_way) | refine A_o ?_ | refine B_o ?_ | refine C_o ?_ | refine R_o ?_ | refine fR ?_ | refine fRk ?_ | refine F_o ?_) | refine fun k => WL.crp [0, 1] [Ob.arr ep true 6 rows, .map (ents encN m)] _ _ hx (oW ?_ _) (underN1 ep rows m) (underR1 ep rows m) | refine fun k => WL.crp [0, 1] [Ob.arr ep true 6 rows, .map (ents encN m)] _ _ hy (oW ?_ _) (underN1 ep rows m) (underR1 ep rows m) | refine SA_l ?_ | refine L_l ?_ | refine Q_l ?_ | refine X_l ?_ | refine Xa_l ?_ | refine Xs_l ?_ | refine K_l ?_ | refine Ka_l ?_ | refine Lk_l ?_ | refine Up_l ?_ | refine Del_l ?_ | refine St_l ?_ | refine LU_l ?_ | refine Xw_l ?_ | refine Le_l ?_ | refine Se_l ?_ | refine M_l ?_ | refine A_l ?_ | refine A0_l ?_ | refine A1_l ?_ | refine Mk_l ?_ | refine V_l ?_ | refine Kz_l ?_ | refine W_l ?_ | fail)
  · have h1 : ¬ a2 = 0 := by simpa using hb
    exact ⟨by simp only [if_neg h1]; rfl, rfl⟩
  · have h1 : a2 = 0 := by
      have h : (!(a2 == 0)) = false := by assumption
      simpa using h
    have h2 : ¬ b2 = 0 := by simpa using hb
    exact ⟨by simp only [if_pos h1, if_neg h2]; rfl, rfl⟩
  · have h1 : a2 = 0 := by
      have h : (!(a2 == 0)) = false := by assumption
      simpa using h
    have h2 : b2 = 0 := by simpa using hb
    exact ⟨by simp only [if_pos h1, if_pos h2]; rfl, rfl⟩
theorem cvalR1 (ep : Nat) (rows : List (List D)) (m : KM) : ∀ (n : Nat) (e : Ex), e.size < n → numF n e = true → Am.Spec Try.prog 65 [.one (.map 1), .agg (e.row.map .d)] [Ob.arr ep true 6 rows, .map (ents encN m)] (fun v s => v = knV (cvalF m n e) ∧ s = [Ob.arr ep true 6 rows, .map (ents encN m)]) := by
  intro n
  induction n with
  | zero => intro e h; omega
  | succ n IH =>
  intro e hs hn
  rw [numF] at hn
  have hin := whatF_in e
  have hok := one_kind (e := e)
  obtain ⟨kd, o, nm, u, l⟩ := e
  by_cases h8 : kd = 8
  · subst h8
    rw [if_pos (show (Ex.mk 8 o nm u l).kind = 8 from rfl)] at hn
    cases hw : whatF (.mk 8 o nm u l) with
    | pr x y =>
      rw [hw] at hin hn
      have hl : l = [x, y] := hin.2
      subst hl
      simp only [Bool.and_eq_true] at hn
      simp only [Ex.size, Ex.sizes] at hs
      have hy : numF n y = true := by
        cases n with
        | zero => omega
        | succ n =>
          rw [numF, if_neg (by rcases one_kind hn.1 with h | h <;> rw [h] <;> decide)]
          exact hn.1
      have c1 := IH x (by omega) hn.2
      have c2 := IH y (by omega) hy
      have g := cval81 ep rows m o nm u x y _ _ c1 c2
      exact g
    | none => rw [hw] at hn; simp at hn
    | num => rw [hw] at hn; simp at hn
    | nam => rw [hw] at hn; simp at hn
    | msk x => rw [hw] at hn; simp at hn
    | sg x => rw [hw] at hn; simp at hn
  · rw [if_neg (show ¬ (Ex.mk kd o nm u l).kind = 8 from h8)] at hn
    rcases hok hn with h | h
    · have h' : kd = 7 := h
      subst h'
      exact cval71 ep rows m o nm u l
    · have h' : kd = 5 := h
      subst h'
      exact cval51 ep rows m o nm u l
theorem cofR1 (ep : Nat) (rows : List (List D)) (m : KM) (e : Ex) (h : e.nok) : Am.Spec Try.prog 46 [.one (.map 1), .agg (e.row.map .d)] [Ob.arr ep true 6 rows, .map (ents encN m)] (fun v s => v = knV (cofF m e) ∧ s = [Ob.arr ep true 6 rows, .map (ents encN m)]) := by
  have c1 := numberR (e.size + 1) e (Nat.lt_succ_self _) h
  have c2 := cvalR1 ep rows m (e.size + 1) e (Nat.lt_succ_self _)
  unfold cofF
  cases hn : numF (e.size + 1) e with
  | true =>
    rw [hn] at c1
    have c3 := c2 hn
    rw [if_pos rfl]
    generalize cvalF m (e.size + 1) e = q at c3
    obtain ⟨kd, o, nm, u, l⟩ := e
    obtain ⟨q1, q2⟩ := q
    refine Spec.body (C := cx [] 12) fits (fn := Try.f46) Try.func46 rfl (by decide) (by decide) (gI ?_)
    repeat' (first | refine fR ?_ (h6 := underN1 ep rows m) | ((first | refine C_r ?_ | refine C0_r ?_ | refine O_r ?_ | refine R_r ?_); (conv => whnf); first | (refine ⟨fun hb => ?_, fun hb => ?_⟩ <;> try exact no_way) | refine A_o ?_ | refine B_o ?_ | refine C_o ?_ | refine R_o ?_ | refine fR ?_ | refine fRk ?_ | refine F_o ?_) | refine C_l (c1) ?_ | refine fun k => WL.crp [0, 1] [Ob.arr ep true 6 rows, .map (ents encN m)] _ _ c3 (oW ?_ _) (underN1 ep rows m) (underR1 ep rows m) | refine SA_l ?_ | refine L_l ?_ | refine Q_l ?_ | refine X_l ?_ | refine Xa_l ?_ | refine Xs_l ?_ | refine K_l ?_ | refine Ka_l ?_ | refine Lk_l ?_ | refine Up_l ?_ | refine Del_l ?_ | refine St_l ?_ | refine LU_l ?_ | refine Xw_l ?_ | refine Le_l ?_ | refine Se_l ?_ | refine M_l ?_ | refine A_l ?_ | refine A0_l ?_ | refine A1_l ?_ | refine Mk_l ?_ | refine V_l ?_ | refine Kz_l ?_ | refine W_l ?_ | fail)
    exact ⟨rfl, rfl⟩
  | false =>
    rw [hn] at c1
    rw [if_neg (by decide)]
    obtain ⟨kd, o, nm, u, l⟩ := e
    refine Spec.body (C := cx [] 12) fits (fn := Try.f46) Try.func46 rfl (by decide) (by decide) (gI ?_)
    repeat' (first | refine fR ?_ (h6 := underN1 ep rows m) | ((first | refine C_r ?_ | refine C0_r ?_ | refine O_r ?_ | refine R_r ?_); (conv => whnf); first | (refine ⟨fun hb => ?_, fun hb => ?_⟩ <;> try exact no_way) | refine A_o ?_ | refine B_o ?_ | refine C_o ?_ | refine R_o ?_ | refine fR ?_ | refine fRk ?_ | refine F_o ?_) | refine C_l (c1) ?_ | refine SA_l ?_ | refine L_l ?_ | refine Q_l ?_ | refine X_l ?_ | refine Xa_l ?_ | refine Xs_l ?_ | refine K_l ?_ | refine Ka_l ?_ | refine Lk_l ?_ | refine Up_l ?_ | refine Del_l ?_ | refine St_l ?_ | refine LU_l ?_ | refine Xw_l ?_ | refine Le_l ?_ | refine Se_l ?_ | refine M_l ?_ | refine A_l ?_ | refine A0_l ?_ | refine A1_l ?_ | refine Mk_l ?_ | refine V_l ?_ | refine Kz_l ?_ | refine W_l ?_ | fail)
    exact ⟨rfl, rfl⟩
end Go.Proofs.Ytceccgnpkelpkaa
