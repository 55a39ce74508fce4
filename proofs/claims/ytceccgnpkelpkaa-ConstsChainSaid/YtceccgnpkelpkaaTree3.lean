/- A part of a proof: functions of the program, walked over the abstract machine. -/
import Derived.Test.YtceccgnpkelpkaaTree2
set_option linter.unusedVariables false
set_option linter.unusedSimpArgs false
namespace Go.Proofs.Ytceccgnpkelpkaa
open Go Go.Am Go.Proofs
attribute [local irreducible] W WL DL WO RoundEnd
set_option maxRecDepth 10000
set_option maxHeartbeats 4000000
mutual
/-- names are no longer than memory allows, all the way down -/
def Ex.nok : Ex → Prop
  | .mk _ _ n _ l => n.size < 2 ^ 60 ∧ Ex.noks l
def Ex.noks : List Ex → Prop
  | [] => True
  | x :: l => Ex.nok x ∧ Ex.noks l
end
mutual
def nokB : Ex → Bool
  | .mk _ _ n _ l => decide (n.size < 2 ^ 60) && noksB l
def noksB : List Ex → Bool
  | [] => true
  | x :: l => nokB x && noksB l
end
mutual
theorem nokB_ok : ∀ e : Ex, nokB e = true → e.nok
  | .mk _ _ n _ l, h => by
    simp only [nokB, Bool.and_eq_true, decide_eq_true_eq] at h
    exact ⟨h.1, noksB_ok l h.2⟩
theorem noksB_ok : ∀ l : List Ex, noksB l = true → Ex.noks l
  | [], _ => trivial
  | x :: l, h => by
    simp only [noksB, Bool.and_eq_true] at h
    exact ⟨nokB_ok x h.1, noksB_ok l h.2⟩
end
theorem whatF_in (e : Ex) : match whatF e with
    | .none => True
    | .num => e.kind = 7
    | .nam => e.kind = 5
    | .msk x => e.kind = 6 ∧ e.kids = [x]
    | .sg x => e.kind = 3 ∧ e.kids = [x]
    | .pr x y => (e.kind = 4 ∨ twoF e.kind = true) ∧ e.kids = [x, y] := by
  obtain ⟨kd, o, n, u, l⟩ := e
  rcases l with _ | ⟨x, _ | ⟨y, _ | ⟨z, l⟩⟩⟩
  · simp only [whatF]
    split
    · trivial
    all_goals (rename_i h; split at h <;> (try split at h) <;> simp_all [Ex.kind, Ex.kids])
  · simp only [whatF]
    split
    · trivial
    all_goals (rename_i h; split at h <;> (try split at h) <;> simp_all [Ex.kind, Ex.kids])
  · simp only [whatF]
    split
    · trivial
    all_goals (rename_i h; split at h <;> (try split at h) <;> simp_all [Ex.kind, Ex.kids])
  · simp [whatF]
def oneF (e : Ex) : Bool := match whatF e with
  | .num => true
  | .nam => nameF e.name
  | _ => false
theorem oneR (e : Ex) (hn : e.name.size < 2 ^ 60) : Comp Try.prog 33 [.agg (e.row.map .d)] (bool (oneF e)) := by
  have c1 := whatR e
  have c2 := nameR e.name hn
  unfold oneF
  obtain ⟨kd, o, n, u, l⟩ := e
  cases hw : whatF (.mk kd o n u l) with
  | none =>
    rw [hw] at c1
    refine Spec.body (C := cx [] 27) fits (fn := Try.f33) Try.func33 rfl (by decide) (by decide) (gI ?_)
    repeat' (first | ((first | refine C_r ?_ | refine C0_r ?_ | refine O_r ?_ | refine R_r ?_); (conv => whnf); first | (refine ⟨fun hb => ?_, fun hb => ?_⟩ <;> try exact no_way) | refine A_o ?_ | refine B_o ?_ | refine C_o ?_ | refine R_o ?_ | refine fR ?_ | refine fRk ?_ | refine F_o ?_) | refine C_l (c1) ?_ | refine B_l (c2) (fun h2 => ?_) fun h2 => ?_ | refine SA_l ?_ | refine L_l ?_ | refine Q_l ?_ | refine X_l ?_ | refine Xa_l ?_ | refine Xs_l ?_ | refine K_l ?_ | refine Ka_l ?_ | refine Lk_l ?_ | refine Up_l ?_ | refine Del_l ?_ | refine St_l ?_ | refine LU_l ?_ | refine Xw_l ?_ | refine Le_l ?_ | refine Se_l ?_ | refine M_l ?_ | refine A_l ?_ | refine A0_l ?_ | refine A1_l ?_ | refine Mk_l ?_ | refine V_l ?_ | refine Kz_l ?_ | refine W_l ?_ | fail)
    all_goals exact ⟨rfl, rfl⟩
  | num =>
    rw [hw] at c1
    refine Spec.body (C := cx [] 27) fits (fn := Try.f33) Try.func33 rfl (by decide) (by decide) (gI ?_)
    repeat' (first | ((first | refine C_r ?_ | refine C0_r ?_ | refine O_r ?_ | refine R_r ?_); (conv => whnf); first | (refine ⟨fun hb => ?_, fun hb => ?_⟩ <;> try exact no_way) | refine A_o ?_ | refine B_o ?_ | refine C_o ?_ | refine R_o ?_ | refine fR ?_ | refine fRk ?_ | refine F_o ?_) | refine C_l (c1) ?_ | refine B_l (c2) (fun h2 => ?_) fun h2 => ?_ | refine SA_l ?_ | refine L_l ?_ | refine Q_l ?_ | refine X_l ?_ | refine Xa_l ?_ | refine Xs_l ?_ | refine K_l ?_ | refine Ka_l ?_ | refine Lk_l ?_ | refine Up_l ?_ | refine Del_l ?_ | refine St_l ?_ | refine LU_l ?_ | refine Xw_l ?_ | refine Le_l ?_ | refine Se_l ?_ | refine M_l ?_ | refine A_l ?_ | refine A0_l ?_ | refine A1_l ?_ | refine Mk_l ?_ | refine V_l ?_ | refine Kz_l ?_ | refine W_l ?_ | fail)
    all_goals exact ⟨rfl, rfl⟩
  | nam =>
    rw [hw] at c1
    refine Spec.body (C := cx [] 27) fits (fn := Try.f33) Try.func33 rfl (by decide) (by decide) (gI ?_)
    repeat' (first | ((first | refine C_r ?_ | refine C0_r ?_ | refine O_r ?_ | refine R_r ?_); (conv => whnf); first | (refine ⟨fun hb => ?_, fun hb => ?_⟩ <;> try exact no_way) | refine A_o ?_ | refine B_o ?_ | refine C_o ?_ | refine R_o ?_ | refine fR ?_ | refine fRk ?_ | refine F_o ?_) | refine C_l (c1) ?_ | refine B_l (c2) (fun h2 => ?_) fun h2 => ?_ | refine SA_l ?_ | refine L_l ?_ | refine Q_l ?_ | refine X_l ?_ | refine Xa_l ?_ | refine Xs_l ?_ | refine K_l ?_ | refine Ka_l ?_ | refine Lk_l ?_ | refine Up_l ?_ | refine Del_l ?_ | refine St_l ?_ | refine LU_l ?_ | refine Xw_l ?_ | refine Le_l ?_ | refine Se_l ?_ | refine M_l ?_ | refine A_l ?_ | refine A0_l ?_ | refine A1_l ?_ | refine Mk_l ?_ | refine V_l ?_ | refine Kz_l ?_ | refine W_l ?_ | fail)
    all_goals exact ⟨by simp only [h2]; rfl, rfl⟩
  | msk x =>
    rw [hw] at c1
    refine Spec.body (C := cx [] 27) fits (fn := Try.f33) Try.func33 rfl (by decide) (by decide) (gI ?_)
    repeat' (first | ((first | refine C_r ?_ | refine C0_r ?_ | refine O_r ?_ | refine R_r ?_); (conv => whnf); first | (refine ⟨fun hb => ?_, fun hb => ?_⟩ <;> try exact no_way) | refine A_o ?_ | refine B_o ?_ | refine C_o ?_ | refine R_o ?_ | refine fR ?_ | refine fRk ?_ | refine F_o ?_) | refine C_l (c1) ?_ | refine B_l (c2) (fun h2 => ?_) fun h2 => ?_ | refine SA_l ?_ | refine L_l ?_ | refine Q_l ?_ | refine X_l ?_ | refine Xa_l ?_ | refine Xs_l ?_ | refine K_l ?_ | refine Ka_l ?_ | refine Lk_l ?_ | refine Up_l ?_ | refine Del_l ?_ | refine St_l ?_ | refine LU_l ?_ | refine Xw_l ?_ | refine Le_l ?_ | refine Se_l ?_ | refine M_l ?_ | refine A_l ?_ | refine A0_l ?_ | refine A1_l ?_ | refine Mk_l ?_ | refine V_l ?_ | refine Kz_l ?_ | refine W_l ?_ | fail)
    all_goals exact ⟨rfl, rfl⟩
  | sg x =>
    rw [hw] at c1
    refine Spec.body (C := cx [] 27) fits (fn := Try.f33) Try.func33 rfl (by decide) (by decide) (gI ?_)
    repeat' (first | ((first | refine C_r ?_ | refine C0_r ?_ | refine O_r ?_ | refine R_r ?_); (conv => whnf); first | (refine ⟨fun hb => ?_, fun hb => ?_⟩ <;> try exact no_way) | refine A_o ?_ | refine B_o ?_ | refine C_o ?_ | refine R_o ?_ | refine fR ?_ | refine fRk ?_ | refine F_o ?_) | refine C_l (c1) ?_ | refine B_l (c2) (fun h2 => ?_) fun h2 => ?_ | refine SA_l ?_ | refine L_l ?_ | refine Q_l ?_ | refine X_l ?_ | refine Xa_l ?_ | refine Xs_l ?_ | refine K_l ?_ | refine Ka_l ?_ | refine Lk_l ?_ | refine Up_l ?_ | refine Del_l ?_ | refine St_l ?_ | refine LU_l ?_ | refine Xw_l ?_ | refine Le_l ?_ | refine Se_l ?_ | refine M_l ?_ | refine A_l ?_ | refine A0_l ?_ | refine A1_l ?_ | refine Mk_l ?_ | refine V_l ?_ | refine Kz_l ?_ | refine W_l ?_ | fail)
    all_goals exact ⟨rfl, rfl⟩
  | pr x y =>
    rw [hw] at c1
    refine Spec.body (C := cx [] 27) fits (fn := Try.f33) Try.func33 rfl (by decide) (by decide) (gI ?_)
    repeat' (first | ((first | refine C_r ?_ | refine C0_r ?_ | refine O_r ?_ | refine R_r ?_); (conv => whnf); first | (refine ⟨fun hb => ?_, fun hb => ?_⟩ <;> try exact no_way) | refine A_o ?_ | refine B_o ?_ | refine C_o ?_ | refine R_o ?_ | refine fR ?_ | refine fRk ?_ | refine F_o ?_) | refine C_l (c1) ?_ | refine B_l (c2) (fun h2 => ?_) fun h2 => ?_ | refine SA_l ?_ | refine L_l ?_ | refine Q_l ?_ | refine X_l ?_ | refine Xa_l ?_ | refine Xs_l ?_ | refine K_l ?_ | refine Ka_l ?_ | refine Lk_l ?_ | refine Up_l ?_ | refine Del_l ?_ | refine St_l ?_ | refine LU_l ?_ | refine Xw_l ?_ | refine Le_l ?_ | refine Se_l ?_ | refine M_l ?_ | refine A_l ?_ | refine A0_l ?_ | refine A1_l ?_ | refine Mk_l ?_ | refine V_l ?_ | refine Kz_l ?_ | refine W_l ?_ | fail)
    all_goals exact ⟨rfl, rfl⟩
def comparedF (e : Ex) : Bool := match whatF e with
  | .nam => nameF e.name
  | .msk x => nameF e.name && oneF x
  | _ => false
theorem comparedR (e : Ex) (hn : e.nok) : Comp Try.prog 35 [.agg (e.row.map .d)] (bool (comparedF e)) := by
  have c1 := whatR e
  have hin := whatF_in e
  unfold comparedF
  obtain ⟨kd, o, n, u, l⟩ := e
  have c2 := nameR n hn.1
  cases hw : whatF (.mk kd o n u l) with
  | none =>
    rw [hw] at c1
    refine Spec.body (C := cx [] 35) fits (fn := Try.f35) Try.func35 rfl (by decide) (by decide) (gI ?_)
    repeat' (first | ((first | refine C_r ?_ | refine C0_r ?_ | refine O_r ?_ | refine R_r ?_); (conv => whnf); first | (refine ⟨fun hb => ?_, fun hb => ?_⟩ <;> try exact no_way) | refine A_o ?_ | refine B_o ?_ | refine C_o ?_ | refine R_o ?_ | refine fR ?_ | refine fRk ?_ | refine F_o ?_) | refine C_l (c1) ?_ | refine B_l (c2) (fun h2 => ?_) fun h2 => ?_ | refine SA_l ?_ | refine L_l ?_ | refine Q_l ?_ | refine X_l ?_ | refine Xa_l ?_ | refine Xs_l ?_ | refine K_l ?_ | refine Ka_l ?_ | refine Lk_l ?_ | refine Up_l ?_ | refine Del_l ?_ | refine St_l ?_ | refine LU_l ?_ | refine Xw_l ?_ | refine Le_l ?_ | refine Se_l ?_ | refine M_l ?_ | refine A_l ?_ | refine A0_l ?_ | refine A1_l ?_ | refine Mk_l ?_ | refine V_l ?_ | refine Kz_l ?_ | refine W_l ?_ | fail)
    all_goals exact ⟨rfl, rfl⟩
  | num =>
    rw [hw] at c1
    refine Spec.body (C := cx [] 35) fits (fn := Try.f35) Try.func35 rfl (by decide) (by decide) (gI ?_)
    repeat' (first | ((first | refine C_r ?_ | refine C0_r ?_ | refine O_r ?_ | refine R_r ?_); (conv => whnf); first | (refine ⟨fun hb => ?_, fun hb => ?_⟩ <;> try exact no_way) | refine A_o ?_ | refine B_o ?_ | refine C_o ?_ | refine R_o ?_ | refine fR ?_ | refine fRk ?_ | refine F_o ?_) | refine C_l (c1) ?_ | refine B_l (c2) (fun h2 => ?_) fun h2 => ?_ | refine SA_l ?_ | refine L_l ?_ | refine Q_l ?_ | refine X_l ?_ | refine Xa_l ?_ | refine Xs_l ?_ | refine K_l ?_ | refine Ka_l ?_ | refine Lk_l ?_ | refine Up_l ?_ | refine Del_l ?_ | refine St_l ?_ | refine LU_l ?_ | refine Xw_l ?_ | refine Le_l ?_ | refine Se_l ?_ | refine M_l ?_ | refine A_l ?_ | refine A0_l ?_ | refine A1_l ?_ | refine Mk_l ?_ | refine V_l ?_ | refine Kz_l ?_ | refine W_l ?_ | fail)
    all_goals exact ⟨rfl, rfl⟩
  | nam =>
    rw [hw] at c1
    refine Spec.body (C := cx [] 35) fits (fn := Try.f35) Try.func35 rfl (by decide) (by decide) (gI ?_)
    repeat' (first | ((first | refine C_r ?_ | refine C0_r ?_ | refine O_r ?_ | refine R_r ?_); (conv => whnf); first | (refine ⟨fun hb => ?_, fun hb => ?_⟩ <;> try exact no_way) | refine A_o ?_ | refine B_o ?_ | refine C_o ?_ | refine R_o ?_ | refine fR ?_ | refine fRk ?_ | refine F_o ?_) | refine C_l (c1) ?_ | refine B_l (c2) (fun h2 => ?_) fun h2 => ?_ | refine SA_l ?_ | refine L_l ?_ | refine Q_l ?_ | refine X_l ?_ | refine Xa_l ?_ | refine Xs_l ?_ | refine K_l ?_ | refine Ka_l ?_ | refine Lk_l ?_ | refine Up_l ?_ | refine Del_l ?_ | refine St_l ?_ | refine LU_l ?_ | refine Xw_l ?_ | refine Le_l ?_ | refine Se_l ?_ | refine M_l ?_ | refine A_l ?_ | refine A0_l ?_ | refine A1_l ?_ | refine Mk_l ?_ | refine V_l ?_ | refine Kz_l ?_ | refine W_l ?_ | fail)
    all_goals exact ⟨by simp only [Ex.name, h2]; rfl, rfl⟩
  | msk x =>
    rw [hw] at c1 hin
    have hk : l = [x] := hin.2
    subst hk
    have c3 := oneR x (by have := hn.2; obtain ⟨_, _, nm, _, _⟩ := x; exact this.1.1)
    obtain ⟨k1, o1, n1, u1, l1⟩ := x
    refine Spec.body (C := cx [] 35) fits (fn := Try.f35) Try.func35 rfl (by decide) (by decide) (gI ?_)
    repeat' (first | ((first | refine C_r ?_ | refine C0_r ?_ | refine O_r ?_ | refine R_r ?_); (conv => whnf); first | (refine ⟨fun hb => ?_, fun hb => ?_⟩ <;> try exact no_way) | refine A_o ?_ | refine B_o ?_ | refine C_o ?_ | refine R_o ?_ | refine fR ?_ | refine fRk ?_ | refine F_o ?_) | refine C_l (c1) ?_ | refine B_l (c2) (fun h2 => ?_) fun h2 => ?_ | refine B_l (c3) (fun h3 => ?_) fun h3 => ?_ | refine SA_l ?_ | refine L_l ?_ | refine Q_l ?_ | refine X_l ?_ | refine Xa_l ?_ | refine Xs_l ?_ | refine K_l ?_ | refine Ka_l ?_ | refine Lk_l ?_ | refine Up_l ?_ | refine Del_l ?_ | refine St_l ?_ | refine LU_l ?_ | refine Xw_l ?_ | refine Le_l ?_ | refine Se_l ?_ | refine M_l ?_ | refine A_l ?_ | refine A0_l ?_ | refine A1_l ?_ | refine Mk_l ?_ | refine V_l ?_ | refine Kz_l ?_ | refine W_l ?_ | fail)
    all_goals first | exact ⟨by simp only [Ex.name, h2, h3]; rfl, rfl⟩ | exact ⟨by simp only [Ex.name, h2]; rfl, rfl⟩
  | sg x =>
    rw [hw] at c1
    refine Spec.body (C := cx [] 35) fits (fn := Try.f35) Try.func35 rfl (by decide) (by decide) (gI ?_)
    repeat' (first | ((first | refine C_r ?_ | refine C0_r ?_ | refine O_r ?_ | refine R_r ?_); (conv => whnf); first | (refine ⟨fun hb => ?_, fun hb => ?_⟩ <;> try exact no_way) | refine A_o ?_ | refine B_o ?_ | refine C_o ?_ | refine R_o ?_ | refine fR ?_ | refine fRk ?_ | refine F_o ?_) | refine C_l (c1) ?_ | refine B_l (c2) (fun h2 => ?_) fun h2 => ?_ | refine SA_l ?_ | refine L_l ?_ | refine Q_l ?_ | refine X_l ?_ | refine Xa_l ?_ | refine Xs_l ?_ | refine K_l ?_ | refine Ka_l ?_ | refine Lk_l ?_ | refine Up_l ?_ | refine Del_l ?_ | refine St_l ?_ | refine LU_l ?_ | refine Xw_l ?_ | refine Le_l ?_ | refine Se_l ?_ | refine M_l ?_ | refine A_l ?_ | refine A0_l ?_ | refine A1_l ?_ | refine Mk_l ?_ | refine V_l ?_ | refine Kz_l ?_ | refine W_l ?_ | fail)
    all_goals exact ⟨rfl, rfl⟩
  | pr x y =>
    rw [hw] at c1
    refine Spec.body (C := cx [] 35) fits (fn := Try.f35) Try.func35 rfl (by decide) (by decide) (gI ?_)
    repeat' (first | ((first | refine C_r ?_ | refine C0_r ?_ | refine O_r ?_ | refine R_r ?_); (conv => whnf); first | (refine ⟨fun hb => ?_, fun hb => ?_⟩ <;> try exact no_way) | refine A_o ?_ | refine B_o ?_ | refine C_o ?_ | refine R_o ?_ | refine fR ?_ | refine fRk ?_ | refine F_o ?_) | refine C_l (c1) ?_ | refine B_l (c2) (fun h2 => ?_) fun h2 => ?_ | refine SA_l ?_ | refine L_l ?_ | refine Q_l ?_ | refine X_l ?_ | refine Xa_l ?_ | refine Xs_l ?_ | refine K_l ?_ | refine Ka_l ?_ | refine Lk_l ?_ | refine Up_l ?_ | refine Del_l ?_ | refine St_l ?_ | refine LU_l ?_ | refine Xw_l ?_ | refine Le_l ?_ | refine Se_l ?_ | refine M_l ?_ | refine A_l ?_ | refine A0_l ?_ | refine A1_l ?_ | refine Mk_l ?_ | refine V_l ?_ | refine Kz_l ?_ | refine W_l ?_ | fail)
    all_goals exact ⟨rfl, rfl⟩
def numF : Nat → Ex → Bool
  | 0, _ => false
  | m + 1, e => if e.kind = 8 then (match whatF e with
    | .pr a b => oneF b && numF m a
    | _ => false) else oneF e
theorem numberR (n0 : Nat) (e0 : Ex) (hs0 : e0.size < n0) (hn0 : e0.nok) : Comp Try.prog 10 [.agg (e0.row.map .d)] (bool (numF n0 e0)) := by
  generalize hfb : numF n0 e0 = fb
  obtain ⟨kd0, o0, n0', u0, l0⟩ := e0
  refine Spec.body (C := cx [] 26) fits (fn := Try.f10) Try.func10 rfl (by decide) (by decide) (gI ?_)
  repeat' (first | ((first | refine C_r ?_ | refine C0_r ?_ | refine O_r ?_ | refine R_r ?_); (conv => whnf); first | (refine ⟨fun hb => ?_, fun hb => ?_⟩ <;> try exact no_way) | refine A_o ?_ | refine B_o ?_ | refine C_o ?_ | refine R_o ?_ | refine fR ?_ | refine fRk ?_ | refine F_o ?_) | refine SA_l ?_ | refine L_l ?_ | refine Q_l ?_ | refine X_l ?_ | refine Xa_l ?_ | refine Xs_l ?_ | refine K_l ?_ | refine Ka_l ?_ | refine Lk_l ?_ | refine Up_l ?_ | refine Del_l ?_ | refine St_l ?_ | refine LU_l ?_ | refine Xw_l ?_ | refine Le_l ?_ | refine Se_l ?_ | refine M_l ?_ | refine A_l ?_ | refine A0_l ?_ | refine A1_l ?_ | refine Mk_l ?_ | refine V_l ?_ | refine Kz_l ?_ | refine W_l ?_ | fail)
  refine wLoop [1] 1 n0 ?_
  refine (fun key => key n0 (.mk kd0 o0 n0' u0 l0) hs0 hn0 hfb.symm :
    (∀ (m : Nat) (e : Ex), e.size < m → e.nok → fb = numF m e →
    WR2 _ _ _ _ _ m [(1, .one (.ptr 0 0))] [.var (e.row.map .d)]) → _) ?_
  intro m
  induction m with
  | zero => intro e h; omega
  | succ m ih =>
    intro e hs hn hr
    have c1 := whatR e
    have hin := whatF_in e
    have c4 := oneR e (by obtain ⟨_, _, nm, _, _⟩ := e; exact hn.1)
    have hf : numF (m + 1) e = (if e.kind = 8 then (match whatF e with
      | .pr a b => oneF b && numF m a
      | _ => false) else oneF e) := rfl
    rw [hf] at hr
    obtain ⟨kd, o, n, u, l⟩ := e
    by_cases h8 : kd = 8
    · subst h8
      have hr' : fb = (match whatF (.mk 8 o n u l) with
        | .pr a b => oneF b && numF m a
        | _ => false) := by rw [hr]; rfl
      cases hw : whatF (.mk 8 o n u l) with
      | pr x y =>
        rw [hw] at c1 hin hr'
        have hk : l = [x, y] := hin.2
        subst hk
        have c3 := oneR y (by have := hn.2; obtain ⟨_, _, nm, _, _⟩ := y; exact this.2.1.1)
        have hsx : x.size < m := by simp only [Ex.size, Ex.sizes] at hs; omega
        have g := ih x hsx hn.2.1
        obtain ⟨k1, o1, n1, u1, l1⟩ := x
        obtain ⟨k2, o2, n2, u2, l2⟩ := y
        refine wR (gI ?_)
        repeat' (first | ((first | refine C_r ?_ | refine C0_r ?_ | refine O_r ?_ | refine R_r ?_); (conv => whnf); first | (refine ⟨fun hb => ?_, fun hb => ?_⟩ <;> try exact no_way) | refine A_o ?_ | refine B_o ?_ | refine C_o ?_ | refine R_o ?_ | refine fR ?_ | refine fRk ?_ | refine F_o ?_) | refine C_l (c1) ?_ | refine B_l (c3) (fun h3 => ?_) fun h3 => ?_ | refine SA_l ?_ | refine L_l ?_ | refine Q_l ?_ | refine X_l ?_ | refine Xa_l ?_ | refine Xs_l ?_ | refine K_l ?_ | refine Ka_l ?_ | refine Lk_l ?_ | refine Up_l ?_ | refine Del_l ?_ | refine St_l ?_ | refine LU_l ?_ | refine Xw_l ?_ | refine Le_l ?_ | refine Se_l ?_ | refine M_l ?_ | refine A_l ?_ | refine A0_l ?_ | refine A1_l ?_ | refine Mk_l ?_ | refine V_l ?_ | refine Kz_l ?_ | refine W_l ?_ | fail)
        · exact rE (g (by rw [hr']; simp only [h3, Bool.true_and]))
        · exact ⟨by rw [hr']; simp only [h3]; rfl, rfl⟩
      | none =>
        rw [hw] at c1 hr'
        refine wR (gI ?_)
        repeat' (first | ((first | refine C_r ?_ | refine C0_r ?_ | refine O_r ?_ | refine R_r ?_); (conv => whnf); first | (refine ⟨fun hb => ?_, fun hb => ?_⟩ <;> try exact no_way) | refine A_o ?_ | refine B_o ?_ | refine C_o ?_ | refine R_o ?_ | refine fR ?_ | refine fRk ?_ | refine F_o ?_) | refine C_l (c1) ?_ | refine SA_l ?_ | refine L_l ?_ | refine Q_l ?_ | refine X_l ?_ | refine Xa_l ?_ | refine Xs_l ?_ | refine K_l ?_ | refine Ka_l ?_ | refine Lk_l ?_ | refine Up_l ?_ | refine Del_l ?_ | refine St_l ?_ | refine LU_l ?_ | refine Xw_l ?_ | refine Le_l ?_ | refine Se_l ?_ | refine M_l ?_ | refine A_l ?_ | refine A0_l ?_ | refine A1_l ?_ | refine Mk_l ?_ | refine V_l ?_ | refine Kz_l ?_ | refine W_l ?_ | fail)
        all_goals exact ⟨by rw [hr']; rfl, rfl⟩
      | num => rw [hw] at hin; simp [Ex.kind] at hin
      | nam => rw [hw] at hin; simp [Ex.kind] at hin
      | msk x => rw [hw] at hin; simp [Ex.kind] at hin
      | sg x => rw [hw] at hin; simp [Ex.kind] at hin
    · have hr' : fb = oneF (.mk kd o n u l) := by rw [hr]; exact if_neg h8
      refine wR (gI ?_)
      repeat' (first | ((first | refine C_r ?_ | refine C0_r ?_ | refine O_r ?_ | refine R_r ?_); (conv => whnf); first | (refine ⟨fun hb => ?_, fun hb => ?_⟩ <;> try exact no_way) | refine A_o ?_ | refine B_o ?_ | refine C_o ?_ | refine R_o ?_ | refine fR ?_ | refine fRk ?_ | refine F_o ?_) | refine B_l (c4) (fun h4 => ?_) fun h4 => ?_ | refine SA_l ?_ | refine L_l ?_ | refine Q_l ?_ | refine X_l ?_ | refine Xa_l ?_ | refine Xs_l ?_ | refine K_l ?_ | refine Ka_l ?_ | refine Lk_l ?_ | refine Up_l ?_ | refine Del_l ?_ | refine St_l ?_ | refine LU_l ?_ | refine Xw_l ?_ | refine Le_l ?_ | refine Se_l ?_ | refine M_l ?_ | refine A_l ?_ | refine A0_l ?_ | refine A1_l ?_ | refine Mk_l ?_ | refine V_l ?_ | refine Kz_l ?_ | refine W_l ?_ | fail)
      · exact ⟨by rw [hr', h4]; rfl, rfl⟩
      · exact ⟨by rw [hr', h4]; rfl, rfl⟩
end Go.Proofs.Ytceccgnpkelpkaa
