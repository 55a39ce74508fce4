/- A part of a proof: functions of the program, walked over the abstract machine. -/
import Derived.Test.YtceccgnpkelpkaaTree3
set_option linter.unusedVariables false
set_option linter.unusedSimpArgs false
namespace Go.Proofs.Ytceccgnpkelpkaa
open Go Go.Am Go.Proofs
attribute [local irreducible] W WL DL WO RoundEnd
set_option maxRecDepth 10000
set_option maxHeartbeats 4000000
def cmpOps : List ByteArray := [⟨#[61, 61]⟩, ⟨#[33, 61]⟩, ⟨#[60]⟩, ⟨#[60, 61]⟩, ⟨#[62]⟩, ⟨#[62, 61]⟩]
def boolF : Nat → Ex → Bool
  | 0, _ => false
  | m + 1, e => match whatF e with
    | .pr a b => if e.kind = 1 ∨ e.kind = 2 then boolF m a && boolF m b else if e.kind = 4 then cmpOps.any (e.op == ·) && (comparedF a && numF m b) else false
    | .sg a => boolF m a
    | _ => false
theorem boolR : ∀ (n : Nat) (e : Ex), e.size < n → e.nok → Comp Try.prog 11 [.agg (e.row.map .d)] (bool (boolF n e)) := by
  intro n
  induction n with
  | zero => intro e h; omega
  | succ n IH =>
  intro e hs hn
  have c1 := whatR e
  have hin := whatF_in e
  generalize hfb : boolF (n + 1) e = fb
  rw [boolF] at hfb
  obtain ⟨kd, o, nm, u, l⟩ := e
  cases hw : whatF (.mk kd o nm u l) with
  | none =>
    rw [hw] at c1 hfb
    refine Spec.body (C := cx [] 49) fits (fn := Try.f11) Try.func11 rfl (by decide) (by decide) (gI ?_)
    repeat' (first | ((first | refine C_r ?_ | refine C0_r ?_ | refine O_r ?_ | refine R_r ?_); (conv => whnf); first | (refine ⟨fun hb => ?_, fun hb => ?_⟩ <;> try exact no_way) | refine A_o ?_ | refine B_o ?_ | refine C_o ?_ | refine R_o ?_ | refine fR ?_ | refine fRk ?_ | refine F_o ?_) | refine C_l (c1) ?_ | refine SA_l ?_ | refine L_l ?_ | refine Q_l ?_ | refine X_l ?_ | refine Xa_l ?_ | refine Xs_l ?_ | refine K_l ?_ | refine Ka_l ?_ | refine Lk_l ?_ | refine Up_l ?_ | refine Del_l ?_ | refine St_l ?_ | refine LU_l ?_ | refine Xw_l ?_ | refine Le_l ?_ | refine Se_l ?_ | refine M_l ?_ | refine A_l ?_ | refine A0_l ?_ | refine A1_l ?_ | refine Mk_l ?_ | refine V_l ?_ | refine Kz_l ?_ | refine W_l ?_ | fail)
    all_goals exact ⟨by rw [← hfb]; rfl, rfl⟩
  | num =>
    rw [hw] at c1 hfb hin
    have hk : kd = 7 := hin
    subst hk
    refine Spec.body (C := cx [] 49) fits (fn := Try.f11) Try.func11 rfl (by decide) (by decide) (gI ?_)
    repeat' (first | ((first | refine C_r ?_ | refine C0_r ?_ | refine O_r ?_ | refine R_r ?_); (conv => whnf); first | (refine ⟨fun hb => ?_, fun hb => ?_⟩ <;> try exact no_way) | refine A_o ?_ | refine B_o ?_ | refine C_o ?_ | refine R_o ?_ | refine fR ?_ | refine fRk ?_ | refine F_o ?_) | refine C_l (c1) ?_ | refine SA_l ?_ | refine L_l ?_ | refine Q_l ?_ | refine X_l ?_ | refine Xa_l ?_ | refine Xs_l ?_ | refine K_l ?_ | refine Ka_l ?_ | refine Lk_l ?_ | refine Up_l ?_ | refine Del_l ?_ | refine St_l ?_ | refine LU_l ?_ | refine Xw_l ?_ | refine Le_l ?_ | refine Se_l ?_ | refine M_l ?_ | refine A_l ?_ | refine A0_l ?_ | refine A1_l ?_ | refine Mk_l ?_ | refine V_l ?_ | refine Kz_l ?_ | refine W_l ?_ | fail)
    all_goals exact ⟨by rw [← hfb]; rfl, rfl⟩
  | nam =>
    rw [hw] at c1 hfb hin
    have hk : kd = 5 := hin
    subst hk
    refine Spec.body (C := cx [] 49) fits (fn := Try.f11) Try.func11 rfl (by decide) (by decide) (gI ?_)
    repeat' (first | ((first | refine C_r ?_ | refine C0_r ?_ | refine O_r ?_ | refine R_r ?_); (conv => whnf); first | (refine ⟨fun hb => ?_, fun hb => ?_⟩ <;> try exact no_way) | refine A_o ?_ | refine B_o ?_ | refine C_o ?_ | refine R_o ?_ | refine fR ?_ | refine fRk ?_ | refine F_o ?_) | refine C_l (c1) ?_ | refine SA_l ?_ | refine L_l ?_ | refine Q_l ?_ | refine X_l ?_ | refine Xa_l ?_ | refine Xs_l ?_ | refine K_l ?_ | refine Ka_l ?_ | refine Lk_l ?_ | refine Up_l ?_ | refine Del_l ?_ | refine St_l ?_ | refine LU_l ?_ | refine Xw_l ?_ | refine Le_l ?_ | refine Se_l ?_ | refine M_l ?_ | refine A_l ?_ | refine A0_l ?_ | refine A1_l ?_ | refine Mk_l ?_ | refine V_l ?_ | refine Kz_l ?_ | refine W_l ?_ | fail)
    all_goals exact ⟨by rw [← hfb]; rfl, rfl⟩
  | msk x =>
    rw [hw] at c1 hfb hin
    have hk : kd = 6 := hin.1
    subst hk
    refine Spec.body (C := cx [] 49) fits (fn := Try.f11) Try.func11 rfl (by decide) (by decide) (gI ?_)
    repeat' (first | ((first | refine C_r ?_ | refine C0_r ?_ | refine O_r ?_ | refine R_r ?_); (conv => whnf); first | (refine ⟨fun hb => ?_, fun hb => ?_⟩ <;> try exact no_way) | refine A_o ?_ | refine B_o ?_ | refine C_o ?_ | refine R_o ?_ | refine fR ?_ | refine fRk ?_ | refine F_o ?_) | refine C_l (c1) ?_ | refine SA_l ?_ | refine L_l ?_ | refine Q_l ?_ | refine X_l ?_ | refine Xa_l ?_ | refine Xs_l ?_ | refine K_l ?_ | refine Ka_l ?_ | refine Lk_l ?_ | refine Up_l ?_ | refine Del_l ?_ | refine St_l ?_ | refine LU_l ?_ | refine Xw_l ?_ | refine Le_l ?_ | refine Se_l ?_ | refine M_l ?_ | refine A_l ?_ | refine A0_l ?_ | refine A1_l ?_ | refine Mk_l ?_ | refine V_l ?_ | refine Kz_l ?_ | refine W_l ?_ | fail)
    all_goals exact ⟨by rw [← hfb]; rfl, rfl⟩
  | sg x =>
    rw [hw] at c1 hfb hin
    have hk : kd = 3 := hin.1
    have hl : l = [x] := hin.2
    subst hk; subst hl
    have c2 := IH x (by simp only [Ex.size, Ex.sizes] at hs; omega) hn.2.1
    obtain ⟨k1, o1, n1, u1, l1⟩ := x
    refine Spec.body (C := cx [] 49) fits (fn := Try.f11) Try.func11 rfl (by decide) (by decide) (gI ?_)
    repeat' (first | ((first | refine C_r ?_ | refine C0_r ?_ | refine O_r ?_ | refine R_r ?_); (conv => whnf); first | (refine ⟨fun hb => ?_, fun hb => ?_⟩ <;> try exact no_way) | refine A_o ?_ | refine B_o ?_ | refine C_o ?_ | refine R_o ?_ | refine fR ?_ | refine fRk ?_ | refine F_o ?_) | refine C_l (c1) ?_ | refine B_l (c2) (fun h2 => ?_) fun h2 => ?_ | refine SA_l ?_ | refine L_l ?_ | refine Q_l ?_ | refine X_l ?_ | refine Xa_l ?_ | refine Xs_l ?_ | refine K_l ?_ | refine Ka_l ?_ | refine Lk_l ?_ | refine Up_l ?_ | refine Del_l ?_ | refine St_l ?_ | refine LU_l ?_ | refine Xw_l ?_ | refine Le_l ?_ | refine Se_l ?_ | refine M_l ?_ | refine A_l ?_ | refine A0_l ?_ | refine A1_l ?_ | refine Mk_l ?_ | refine V_l ?_ | refine Kz_l ?_ | refine W_l ?_ | fail)
    all_goals exact ⟨by rw [← hfb]; simp only [h2]; rfl, rfl⟩
  | pr x y =>
    rw [hw] at c1 hfb hin
    have hl : l = [x, y] := hin.2
    have hk := hin.1
    subst hl
    have c2 := IH x (by simp only [Ex.size, Ex.sizes] at hs; omega) hn.2.1
    have c3 := IH y (by simp only [Ex.size, Ex.sizes] at hs; omega) hn.2.2.1
    have c4 := comparedR x hn.2.1
    have c5 := numberR n y (by simp only [Ex.size, Ex.sizes] at hs; omega) hn.2.2.1
    have c6 := containsR cmpOps o (by decide)
    obtain ⟨k1, o1, n1, u1, l1⟩ := x
    obtain ⟨k2, o2, n2, u2, l2⟩ := y
    simp only [Ex.kind, twoF, Bool.or_eq_true, beq_iff_eq] at hk
    rcases hk with rfl | rfl | rfl | rfl
    · refine Spec.body (C := cx [] 49) fits (fn := Try.f11) Try.func11 rfl (by decide) (by decide) (gI ?_)
      repeat' (first | ((first | refine C_r ?_ | refine C0_r ?_ | refine O_r ?_ | refine R_r ?_); (conv => whnf); first | (refine ⟨fun hb => ?_, fun hb => ?_⟩ <;> try exact no_way) | refine A_o ?_ | refine B_o ?_ | refine C_o ?_ | refine R_o ?_ | refine fR ?_ | refine fRk ?_ | refine F_o ?_) | refine C_l (c1) ?_ | refine B_l (c6) (fun h6 => ?_) fun h6 => ?_ | refine B_l (c4) (fun h4 => ?_) fun h4 => ?_ | refine B_l (c5) (fun h5 => ?_) fun h5 => ?_ | refine SA_l ?_ | refine L_l ?_ | refine Q_l ?_ | refine X_l ?_ | refine Xa_l ?_ | refine Xs_l ?_ | refine K_l ?_ | refine Ka_l ?_ | refine Lk_l ?_ | refine Up_l ?_ | refine Del_l ?_ | refine St_l ?_ | refine LU_l ?_ | refine Xw_l ?_ | refine Le_l ?_ | refine Se_l ?_ | refine M_l ?_ | refine A_l ?_ | refine A0_l ?_ | refine A1_l ?_ | refine Mk_l ?_ | refine V_l ?_ | refine Kz_l ?_ | refine W_l ?_ | fail)
      all_goals first | exact ⟨by rw [← hfb]; simp [Ex.kind, Ex.op, h4, h5, h6]; rfl, rfl⟩ | exact ⟨by rw [← hfb]; simp [Ex.kind, Ex.op, h4, h6]; rfl, rfl⟩ | exact ⟨by rw [← hfb]; simp [Ex.kind, Ex.op, h6]; rfl, rfl⟩ | trace_state
    · refine Spec.body (C := cx [] 49) fits (fn := Try.f11) Try.func11 rfl (by decide) (by decide) (gI ?_)
      repeat' (first | ((first | refine C_r ?_ | refine C0_r ?_ | refine O_r ?_ | refine R_r ?_); (conv => whnf); first | (refine ⟨fun hb => ?_, fun hb => ?_⟩ <;> try exact no_way) | refine A_o ?_ | refine B_o ?_ | refine C_o ?_ | refine R_o ?_ | refine fR ?_ | refine fRk ?_ | refine F_o ?_) | refine C_l (c1) ?_ | refine B_l (c2) (fun h2 => ?_) fun h2 => ?_ | refine B_l (c3) (fun h3 => ?_) fun h3 => ?_ | refine SA_l ?_ | refine L_l ?_ | refine Q_l ?_ | refine X_l ?_ | refine Xa_l ?_ | refine Xs_l ?_ | refine K_l ?_ | refine Ka_l ?_ | refine Lk_l ?_ | refine Up_l ?_ | refine Del_l ?_ | refine St_l ?_ | refine LU_l ?_ | refine Xw_l ?_ | refine Le_l ?_ | refine Se_l ?_ | refine M_l ?_ | refine A_l ?_ | refine A0_l ?_ | refine A1_l ?_ | refine Mk_l ?_ | refine V_l ?_ | refine Kz_l ?_ | refine W_l ?_ | fail)
      all_goals first | exact ⟨by rw [← hfb]; simp [Ex.kind, h2, h3]; rfl, rfl⟩ | exact ⟨by rw [← hfb]; simp [Ex.kind, h2]; rfl, rfl⟩ | trace_state
    · refine Spec.body (C := cx [] 49) fits (fn := Try.f11) Try.func11 rfl (by decide) (by decide) (gI ?_)
      repeat' (first | ((first | refine C_r ?_ | refine C0_r ?_ | refine O_r ?_ | refine R_r ?_); (conv => whnf); first | (refine ⟨fun hb => ?_, fun hb => ?_⟩ <;> try exact no_way) | refine A_o ?_ | refine B_o ?_ | refine C_o ?_ | refine R_o ?_ | refine fR ?_ | refine fRk ?_ | refine F_o ?_) | refine C_l (c1) ?_ | refine B_l (c2) (fun h2 => ?_) fun h2 => ?_ | refine B_l (c3) (fun h3 => ?_) fun h3 => ?_ | refine SA_l ?_ | refine L_l ?_ | refine Q_l ?_ | refine X_l ?_ | refine Xa_l ?_ | refine Xs_l ?_ | refine K_l ?_ | refine Ka_l ?_ | refine Lk_l ?_ | refine Up_l ?_ | refine Del_l ?_ | refine St_l ?_ | refine LU_l ?_ | refine Xw_l ?_ | refine Le_l ?_ | refine Se_l ?_ | refine M_l ?_ | refine A_l ?_ | refine A0_l ?_ | refine A1_l ?_ | refine Mk_l ?_ | refine V_l ?_ | refine Kz_l ?_ | refine W_l ?_ | fail)
      all_goals first | exact ⟨by rw [← hfb]; simp [Ex.kind, h2, h3]; rfl, rfl⟩ | exact ⟨by rw [← hfb]; simp [Ex.kind, h2]; rfl, rfl⟩ | trace_state
    · refine Spec.body (C := cx [] 49) fits (fn := Try.f11) Try.func11 rfl (by decide) (by decide) (gI ?_)
      repeat' (first | ((first | refine C_r ?_ | refine C0_r ?_ | refine O_r ?_ | refine R_r ?_); (conv => whnf); first | (refine ⟨fun hb => ?_, fun hb => ?_⟩ <;> try exact no_way) | refine A_o ?_ | refine B_o ?_ | refine C_o ?_ | refine R_o ?_ | refine fR ?_ | refine fRk ?_ | refine F_o ?_) | refine C_l (c1) ?_ | refine SA_l ?_ | refine L_l ?_ | refine Q_l ?_ | refine X_l ?_ | refine Xa_l ?_ | refine Xs_l ?_ | refine K_l ?_ | refine Ka_l ?_ | refine Lk_l ?_ | refine Up_l ?_ | refine Del_l ?_ | refine St_l ?_ | refine LU_l ?_ | refine Xw_l ?_ | refine Le_l ?_ | refine Se_l ?_ | refine M_l ?_ | refine A_l ?_ | refine A0_l ?_ | refine A1_l ?_ | refine Mk_l ?_ | refine V_l ?_ | refine Kz_l ?_ | refine W_l ?_ | fail)
      all_goals exact ⟨by rw [← hfb]; rfl, rfl⟩
theorem depth0 : Comp Try.prog 31 [.agg [.d (.sc (.int .i64 0)), .d (.sc (.string ⟨#[]⟩)), .d (.sc (.string ⟨#[]⟩)), .d (.sc (.int .u64 0)), .d (.list [])]] (int .i64 1) := by
  refine Spec.body (C := cx [] 20) fits (fn := Try.f31) Try.func31 rfl (by decide) (by decide) (gI ?_)
  repeat' (first | ((first | refine C_r ?_ | refine C0_r ?_ | refine O_r ?_ | refine R_r ?_); (conv => whnf); first | (refine ⟨fun hb => ?_, fun hb => ?_⟩ <;> try exact no_way) | refine A_o ?_ | refine B_o ?_ | refine C_o ?_ | refine R_o ?_ | refine fR ?_ | refine fRk ?_ | refine F_o ?_) | refine SA_l ?_ | refine L_l ?_ | refine Q_l ?_ | refine X_l ?_ | refine Xa_l ?_ | refine Xs_l ?_ | refine K_l ?_ | refine Ka_l ?_ | refine Lk_l ?_ | refine Up_l ?_ | refine Del_l ?_ | refine St_l ?_ | refine LU_l ?_ | refine Xw_l ?_ | refine Le_l ?_ | refine Se_l ?_ | refine M_l ?_ | refine A_l ?_ | refine A0_l ?_ | refine A1_l ?_ | refine Mk_l ?_ | refine V_l ?_ | refine Kz_l ?_ | refine W_l ?_ | fail)
  refine wLoop [3, 7, 8, 9] 1 1 ?_
  refine wR (gI ?_)
  repeat' (first | ((first | refine C_r ?_ | refine C0_r ?_ | refine O_r ?_ | refine R_r ?_); (conv => whnf); first | (refine ⟨fun hb => ?_, fun hb => ?_⟩ <;> try exact no_way) | refine A_o ?_ | refine B_o ?_ | refine C_o ?_ | refine R_o ?_ | refine fR ?_ | refine fRk ?_ | refine F_o ?_) | refine SA_l ?_ | refine L_l ?_ | refine Q_l ?_ | refine X_l ?_ | refine Xa_l ?_ | refine Xs_l ?_ | refine K_l ?_ | refine Ka_l ?_ | refine Lk_l ?_ | refine Up_l ?_ | refine Del_l ?_ | refine St_l ?_ | refine LU_l ?_ | refine Xw_l ?_ | refine Le_l ?_ | refine Se_l ?_ | refine M_l ?_ | refine A_l ?_ | refine A0_l ?_ | refine A1_l ?_ | refine Mk_l ?_ | refine V_l ?_ | refine Kz_l ?_ | refine W_l ?_ | fail)
  exact ⟨rfl, rfl⟩
theorem alive11 : Comp Try.prog 9 [] (bool true) := by
  have c1 := nameR ⟨#[85, 83, 69]⟩ (by decide)
  rw [show nameF ⟨#[85, 83, 69]⟩ = false by decide +kernel] at c1
  have c2 := nameR ⟨#[97, 95, 49]⟩ (by decide)
  rw [show nameF ⟨#[97, 95, 49]⟩ = true by decide +kernel] at c2
  have c3 := numberR 20 (.mk 7 ⟨#[]⟩ ⟨#[]⟩ 3 []) (by simp [Ex.size, Ex.sizes]) ⟨by decide, trivial⟩
  rw [show numF 20 (.mk 7 ⟨#[]⟩ ⟨#[]⟩ 3 []) = true by decide +kernel] at c3
  have c4 := depth0
  refine Spec.body (C := cx [] 15) fits (fn := Try.f9) Try.func9 rfl (by decide) (by decide) (gI ?_)
  repeat' (first | ((first | refine C_r ?_ | refine C0_r ?_ | refine O_r ?_ | refine R_r ?_); (conv => whnf); first | (refine ⟨fun hb => ?_, fun hb => ?_⟩ <;> try exact no_way) | refine A_o ?_ | refine B_o ?_ | refine C_o ?_ | refine R_o ?_ | refine fR ?_ | refine fRk ?_ | refine F_o ?_) | refine C_l (c1) ?_ | refine C_l (c2) ?_ | refine C_l (c3) ?_ | refine C_l (c4) ?_ | refine SA_l ?_ | refine L_l ?_ | refine Q_l ?_ | refine X_l ?_ | refine Xa_l ?_ | refine Xs_l ?_ | refine K_l ?_ | refine Ka_l ?_ | refine Lk_l ?_ | refine Up_l ?_ | refine Del_l ?_ | refine St_l ?_ | refine LU_l ?_ | refine Xw_l ?_ | refine Le_l ?_ | refine Se_l ?_ | refine M_l ?_ | refine A_l ?_ | refine A0_l ?_ | refine A1_l ?_ | refine Mk_l ?_ | refine V_l ?_ | refine Kz_l ?_ | refine W_l ?_ | fail)
  exact ⟨rfl, rfl⟩
end Go.Proofs.Ytceccgnpkelpkaa
