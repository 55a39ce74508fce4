/- What data end with, by the document; how many parts there are. -/
import Derived.Test.YtcplpllbinilmaaMn3
set_option linter.unusedVariables false
set_option linter.unusedSimpArgs false
namespace Go.Proofs.Ytcplpllbinilmaa
open Go Go.Am Go.Proofs
attribute [local irreducible] W WL DL WO RoundEnd
set_option maxRecDepth 10000
set_option maxHeartbeats 4000000
set_option linter.unusedVariables false
set_option linter.unusedSimpArgs false
theorem spansOther (arch : Int) (l : List Span) (d : Dat) (hne : (d.arch == arch) = false) : Comp Try.prog 22 [int .u32 arch, lst Span.row l, .agg (d.row.map .d)] (int .u32 2147483648) := by
  have c1 : Comp Try.prog 23 [actV 1 0] (t2 2147483648 true) := refActR 1 0
  unfold actV at c1
  have hn : (!(d.arch == arch)) = true := by rw [hne]; rfl
  refine Spec.body (C := cx [] 39) fits (fn := Try.f22) Try.func22 rfl (by decide) (by decide) (gI ?_)
  repeat' (first | ((first | refine C_r ?_ | refine C0_r ?_ | refine O_r ?_ | refine R_r ?_); (conv => whnf); first | (refine ⟨fun hb => ?_, fun hb => ?_⟩ <;> try exact no_way) | refine A_o ?_ | refine B_o ?_ | refine C_o ?_ | refine R_o ?_ | refine fR ?_ | refine fRk ?_ | refine F_o ?_) | refine C_l (c1) ?_ | refine SA_l ?_ | refine V_l ?_ | refine L_l ?_ | refine Q_l ?_ | refine X_l ?_ | refine Xa_l ?_ | refine Xs_l ?_ | refine K_l ?_ | refine Ka_l ?_ | refine Lk_l ?_ | refine Up_l ?_ | refine Del_l ?_ | refine St_l ?_ | refine LU_l ?_ | refine Xw_l ?_ | refine Le_l ?_ | refine Se_l ?_ | refine M_l ?_ | refine A_l ?_ | refine A0_l ?_ | refine A1_l ?_ | refine Mk_l ?_ | refine Kz_l ?_ | refine W_l ?_ | refine C_d (c1) ?_ | refine SA_d ?_ | refine V_d ?_ | refine L_d ?_ | refine Q_d ?_ | refine X_d ?_ | refine Xs_d ?_ | refine K_d ?_ | refine Ka_d ?_ | refine Lk_d ?_ | refine Up_d ?_ | refine A_d ?_ | refine A0_d ?_ | refine St_d ?_ | refine LU_d ?_ | refine Xw_d ?_ | refine Le_d ?_ | refine Se_d ?_ | refine M_d ?_ | refine Mk_d ?_ | refine N_d ?_ | refine Kz_d ?_ | refine W_d ?_ | fail)
  all_goals first | exact ⟨rfl, rfl⟩ | trace_state
theorem spansThis (l : List Span) (hl : l.length < 2 ^ 60) (d : Dat) (hd : d.ok) (x : Span) (k : Nat) (hk : findI d.nr l 0 = k) (hx : l[k]? = some x) (hs : x.small) (hf : x.fit) : Comp Try.prog 22 [int .u32 d.arch, lst Span.row l, .agg (d.row.map .d)] (int .u32 (actK (ledW d x.steps x.act))) := by
  have c1 : Comp Try.prog 23 [actV 1 0] (t2 2147483648 true) := refActR 1 0
  have c2 := findR l hl d.nr
  rw [hk] at c2
  have c3 := ledR d hd x.steps hs.1.1 (fun s h => ⟨(hs.1.2 s h).1, fun c hc => ⟨(hs.1.2 s h).2 c hc, hf s h c hc⟩⟩) x.act
  unfold argsV at c3
  generalize ledW d x.steps x.act = A at *
  obtain ⟨ka, da⟩ := A
  have c4 : Comp Try.prog 23 [actV ka da] (t2 (actK ⟨ka, da⟩) (actN ka da).isSome) := refActR ka da
  generalize actK ⟨ka, da⟩ = w at *
  generalize (actN ka da).isSome = b at *
  unfold actV at c1 c4
  have hx : l[((k : Int)).toNat]? = some x := hx
  have hlen : k < l.length := (List.getElem?_eq_some_iff.1 hx).1
  have hn : (!(d.arch == d.arch)) = false := by simp
  clear hk hd hf
  refine Spec.body (C := cx [] 39) fits (fn := Try.f22) Try.func22 rfl (by decide) (by decide) (gI ?_)
  repeat' (first | ((first | refine C_r ?_ | refine C0_r ?_ | refine O_r ?_ | refine R_r ?_); (conv => whnf); first | (refine ⟨fun hb => ?_, fun hb => ?_⟩ <;> try exact no_way) | refine A_o ?_ | refine B_o ?_ | refine C_o ?_ | refine R_o ?_ | refine fR ?_ | refine fRk ?_ | refine F_o ?_) | refine C_l (c1) ?_ | refine C_l (c2) ?_ | refine C_l (c3) ?_ | refine C_l (c4) ?_ | refine SA_l ?_ | refine V_l ?_ | refine L_l ?_ | refine Q_l ?_ | refine X_l ?_ | refine Xa_l ?_ | refine Xs_l ?_ | refine K_l ?_ | refine Ka_l ?_ | refine Lk_l ?_ | refine Up_l ?_ | refine Del_l ?_ | refine St_l ?_ | refine LU_l ?_ | refine Xw_l ?_ | refine Le_l ?_ | refine Se_l ?_ | refine M_l ?_ | refine A_l ?_ | refine A0_l ?_ | refine A1_l ?_ | refine Mk_l ?_ | refine Kz_l ?_ | refine W_l ?_ | refine C_d (c1) ?_ | refine C_d (c2) ?_ | refine C_d (c3) ?_ | refine C_d (c4) ?_ | refine SA_d ?_ | refine V_d ?_ | refine L_d ?_ | refine Q_d ?_ | refine X_d ?_ | refine Xs_d ?_ | refine K_d ?_ | refine Ka_d ?_ | refine Lk_d ?_ | refine Up_d ?_ | refine A_d ?_ | refine A0_d ?_ | refine St_d ?_ | refine LU_d ?_ | refine Xw_d ?_ | refine Le_d ?_ | refine Se_d ?_ | refine M_d ?_ | refine Mk_d ?_ | refine N_d ?_ | refine Kz_d ?_ | refine W_d ?_ | fail)
  all_goals first | exact ⟨rfl, rfl⟩ | trace_state
theorem partsR (l : List Span) (hl : l.length < 2 ^ 60) (hs : ∀ x ∈ l, x.small) (hT : partsC l ≤ 7800) : Comp Try.prog 21 [lst Span.row l] (int .i64 (partsC l)) := by
  generalize hfb : partsC l = T at *
  have hz : (l.map Span.row).length = l.length := by simp
  refine Spec.body (C := cx [] 58) fits (fn := Try.f21) Try.func21 rfl (by decide) (by decide) (gI ?_)
  repeat' (first | ((first | refine C_r ?_ | refine C0_r ?_ | refine O_r ?_ | refine R_r ?_); (conv => whnf); first | (refine ⟨fun hb => ?_, fun hb => ?_⟩ <;> try exact no_way) | refine A_o ?_ | refine B_o ?_ | refine C_o ?_ | refine R_o ?_ | refine fR ?_ | refine fRk ?_ | refine F_o ?_) | refine SA_l ?_ | refine V_l ?_ | refine L_l ?_ | refine Q_l ?_ | refine X_l ?_ | refine Xa_l ?_ | refine Xs_l ?_ | refine K_l ?_ | refine Ka_l ?_ | refine Lk_l ?_ | refine Up_l ?_ | refine Del_l ?_ | refine St_l ?_ | refine LU_l ?_ | refine Xw_l ?_ | refine Le_l ?_ | refine Se_l ?_ | refine M_l ?_ | refine A_l ?_ | refine A0_l ?_ | refine A1_l ?_ | refine Mk_l ?_ | refine Kz_l ?_ | refine W_l ?_ | refine SA_d ?_ | refine V_d ?_ | refine L_d ?_ | refine Q_d ?_ | refine X_d ?_ | refine Xs_d ?_ | refine K_d ?_ | refine Ka_d ?_ | refine Lk_d ?_ | refine Up_d ?_ | refine A_d ?_ | refine A0_d ?_ | refine St_d ?_ | refine LU_d ?_ | refine Xw_d ?_ | refine Le_d ?_ | refine Se_d ?_ | refine M_d ?_ | refine Mk_d ?_ | refine N_d ?_ | refine Kz_d ?_ | refine W_d ?_ | fail)
  refine wLoop [0, 3, 4] 0 (l.length + 1) ?_
  refine (fun key => key l [] _ rfl (by rw [hz]; omega) (by omega) :
    (∀ (rest done : List Span) (n : Int), l = done ++ rest → n + partsC rest = T + rest.length → 0 ≤ n →
    WR2 _ _ _ _ _ (rest.length + 1) [(0, lst Span.row l), (3, int .i64 n), (4, int .i64 done.length)] []) → _) ?_
  clear hfb
  intro rest
  induction rest with
  | nil =>
    intro done n g1 g2 g3
    have hlen : l.length = done.length := by rw [g1]; simp
    have g2 : n = T := by simpa [partsC] using g2
    subst g2
    have q : decide ((done.length : Int) < ((l.map Span.row).length : Int)) = false := by rw [decide_eq_false_iff_not, hz]; omega
    refine wR (gI ?_)
    repeat' (first | ((first | refine C_r ?_ | refine C0_r ?_ | refine O_r ?_ | refine R_r ?_); (conv => whnf); first | (refine ⟨fun hb => ?_, fun hb => ?_⟩ <;> try exact no_way) | refine A_o ?_ | refine B_o ?_ | refine C_o ?_ | refine R_o ?_ | refine fR ?_ | refine fRk ?_ | refine F_o ?_) | refine SA_l ?_ | refine V_l ?_ | refine L_l ?_ | refine Q_l ?_ | refine X_l ?_ | refine Xa_l ?_ | refine Xs_l ?_ | refine K_l ?_ | refine Ka_l ?_ | refine Lk_l ?_ | refine Up_l ?_ | refine Del_l ?_ | refine St_l ?_ | refine LU_l ?_ | refine Xw_l ?_ | refine Le_l ?_ | refine Se_l ?_ | refine M_l ?_ | refine A_l ?_ | refine A0_l ?_ | refine A1_l ?_ | refine Mk_l ?_ | refine Kz_l ?_ | refine W_l ?_ | refine SA_d ?_ | refine V_d ?_ | refine L_d ?_ | refine Q_d ?_ | refine X_d ?_ | refine Xs_d ?_ | refine K_d ?_ | refine Ka_d ?_ | refine Lk_d ?_ | refine Up_d ?_ | refine A_d ?_ | refine A0_d ?_ | refine St_d ?_ | refine LU_d ?_ | refine Xw_d ?_ | refine Le_d ?_ | refine Se_d ?_ | refine M_d ?_ | refine Mk_d ?_ | refine N_d ?_ | refine Kz_d ?_ | refine W_d ?_ | fail)
    all_goals first | exact ⟨rfl, rfl⟩ | trace_state
  | cons x rest ih =>
    intro done n g1 g2 g3
    have hx : l[done.length]? = some x := by rw [g1]; simp
    have hx : l[((done.length : Int)).toNat]? = some x := hx
    have hlen : l.length = done.length + (rest.length + 1) := by rw [g1]; simp
    have hsx := hs x (by rw [g1]; simp)
    have hzs : (x.steps.map Stp.row).length = x.steps.length := by simp
    have hsl := hsx.1.1
    have hss := hsx.1.2
    have q : decide ((done.length : Int) < ((l.map Span.row).length : Int)) = true := by rw [decide_eq_true_eq, hz]; omega
    have e7 : IntKind.i64.wrap ((done.length : Int) + 1) = ((done.length + 1 : Nat) : Int) := by rw [wrap_ok (by omega) (by omega)]; omega
    rw [partsC, List.length_cons] at g2
    have g := fun m h1 h2 => ih (done ++ [x]) m (by rw [g1]; simp) h1 h2
    rw [show (done ++ [x]).length = done.length + 1 from by simp] at g
    clear ih g1
    refine wR (gI ?_)
    repeat' (first | ((first | refine C_r ?_ | refine C0_r ?_ | refine O_r ?_ | refine R_r ?_); (conv => whnf); first | (refine ⟨fun hb => ?_, fun hb => ?_⟩ <;> try exact no_way) | refine A_o ?_ | refine B_o ?_ | refine C_o ?_ | refine R_o ?_ | refine fR ?_ | refine fRk ?_ | refine F_o ?_) | refine SA_l ?_ | refine V_l ?_ | refine L_l ?_ | refine Q_l ?_ | refine X_l ?_ | refine Xa_l ?_ | refine Xs_l ?_ | refine K_l ?_ | refine Ka_l ?_ | refine Lk_l ?_ | refine Up_l ?_ | refine Del_l ?_ | refine St_l ?_ | refine LU_l ?_ | refine Xw_l ?_ | refine Le_l ?_ | refine Se_l ?_ | refine M_l ?_ | refine A_l ?_ | refine A0_l ?_ | refine A1_l ?_ | refine Mk_l ?_ | refine Kz_l ?_ | refine W_l ?_ | refine SA_d ?_ | refine V_d ?_ | refine L_d ?_ | refine Q_d ?_ | refine X_d ?_ | refine Xs_d ?_ | refine K_d ?_ | refine Ka_d ?_ | refine Lk_d ?_ | refine Up_d ?_ | refine A_d ?_ | refine A0_d ?_ | refine St_d ?_ | refine LU_d ?_ | refine Xw_d ?_ | refine Le_d ?_ | refine Se_d ?_ | refine M_d ?_ | refine Mk_d ?_ | refine N_d ?_ | refine Kz_d ?_ | refine W_d ?_ | fail)
    refine wLoop [0, 3, 4, 5] 0 (x.steps.length + 1) ?_
    refine (fun key => key x.steps [] _ rfl (by omega) g3 :
      (∀ (rest2 done2 : List Stp) (n2 : Int), x.steps = done2 ++ rest2 → n2 + stepsC rest2 + partsC rest = T + rest.length → 0 ≤ n2 →
      WR2 _ _ _ _ _ (rest2.length + 1) [(0, lst Span.row l), (3, int .i64 n2), (4, int .i64 done.length), (5, int .i64 done2.length)] []) → _) ?_
    clear g2 g3
    intro rest2
    induction rest2 with
    | nil =>
      intro done2 n2 m1 m2 m3
      have hlen2 : x.steps.length = done2.length := by rw [m1]; simp
      have q2 : decide ((done2.length : Int) < ((x.steps.map Stp.row).length : Int)) = false := by rw [decide_eq_false_iff_not, hzs]; omega
      have g := g n2 (by simpa [stepsC] using m2) m3
      refine wR (gI ?_)
      repeat' (first | ((first | refine C_r ?_ | refine C0_r ?_ | refine O_r ?_ | refine R_r ?_); (conv => whnf); first | (refine ⟨fun hb => ?_, fun hb => ?_⟩ <;> try exact no_way) | refine A_o ?_ | refine B_o ?_ | refine C_o ?_ | refine R_o ?_ | refine fR ?_ | refine fRk ?_ | refine F_o ?_) | refine SA_l ?_ | refine V_l ?_ | refine L_l ?_ | refine Q_l ?_ | refine X_l ?_ | refine Xa_l ?_ | refine Xs_l ?_ | refine K_l ?_ | refine Ka_l ?_ | refine Lk_l ?_ | refine Up_l ?_ | refine Del_l ?_ | refine St_l ?_ | refine LU_l ?_ | refine Xw_l ?_ | refine Le_l ?_ | refine Se_l ?_ | refine M_l ?_ | refine A_l ?_ | refine A0_l ?_ | refine A1_l ?_ | refine Mk_l ?_ | refine Kz_l ?_ | refine W_l ?_ | refine SA_d ?_ | refine V_d ?_ | refine L_d ?_ | refine Q_d ?_ | refine X_d ?_ | refine Xs_d ?_ | refine K_d ?_ | refine Ka_d ?_ | refine Lk_d ?_ | refine Up_d ?_ | refine A_d ?_ | refine A0_d ?_ | refine St_d ?_ | refine LU_d ?_ | refine Xw_d ?_ | refine Le_d ?_ | refine Se_d ?_ | refine M_d ?_ | refine Mk_d ?_ | refine N_d ?_ | refine Kz_d ?_ | refine W_d ?_ | fail)
      all_goals first | (rw [e7]; exact rE g) | trace_state
    | cons s rest2 ih2 =>
      intro done2 n2 m1 m2 m3
      have hx2 : x.steps[done2.length]? = some s := by rw [m1]; simp
      have hx2 : x.steps[((done2.length : Int)).toNat]? = some s := hx2
      have hlen2 : x.steps.length = done2.length + (rest2.length + 1) := by rw [m1]; simp
      have hsm := hss s (by rw [m1]; simp)
      have hsm1 := hsm.1
      have hzc : (s.clauses.map crow).length = s.clauses.length := by simp
      have q2 : decide ((done2.length : Int) < ((x.steps.map Stp.row).length : Int)) = true := by rw [decide_eq_true_eq, hzs]; omega
      have e8 : IntKind.i64.wrap ((done2.length : Int) + 1) = ((done2.length + 1 : Nat) : Int) := by rw [wrap_ok (by omega) (by omega)]; omega
      have e9 : IntKind.i64.wrap (n2 + 1) = n2 + 1 := wrap_ok (by omega) (by omega)
      rw [stepsC] at m2
      have g3 := fun m h1 h2 => ih2 (done2 ++ [s]) m (by rw [m1]; simp) h1 h2
      rw [show (done2 ++ [s]).length = done2.length + 1 from by simp] at g3
      clear ih2 g m1
      refine wR (gI ?_)
      repeat' (first | ((first | refine C_r ?_ | refine C0_r ?_ | refine O_r ?_ | refine R_r ?_); (conv => whnf); first | (refine ⟨fun hb => ?_, fun hb => ?_⟩ <;> try exact no_way) | refine A_o ?_ | refine B_o ?_ | refine C_o ?_ | refine R_o ?_ | refine fR ?_ | refine fRk ?_ | refine F_o ?_) | refine SA_l ?_ | refine V_l ?_ | refine L_l ?_ | refine Q_l ?_ | refine X_l ?_ | refine Xa_l ?_ | refine Xs_l ?_ | refine K_l ?_ | refine Ka_l ?_ | refine Lk_l ?_ | refine Up_l ?_ | refine Del_l ?_ | refine St_l ?_ | refine LU_l ?_ | refine Xw_l ?_ | refine Le_l ?_ | refine Se_l ?_ | refine M_l ?_ | refine A_l ?_ | refine A0_l ?_ | refine A1_l ?_ | refine Mk_l ?_ | refine Kz_l ?_ | refine W_l ?_ | refine SA_d ?_ | refine V_d ?_ | refine L_d ?_ | refine Q_d ?_ | refine X_d ?_ | refine Xs_d ?_ | refine K_d ?_ | refine Ka_d ?_ | refine Lk_d ?_ | refine Up_d ?_ | refine A_d ?_ | refine A0_d ?_ | refine St_d ?_ | refine LU_d ?_ | refine Xw_d ?_ | refine Le_d ?_ | refine Se_d ?_ | refine M_d ?_ | refine Mk_d ?_ | refine N_d ?_ | refine Kz_d ?_ | refine W_d ?_ | fail)
      rw [e9]
      refine wLoop [0, 3, 4, 5, 6] 0 (s.clauses.length + 1) ?_
      refine (fun key => key s.clauses [] _ rfl (by omega) (by omega) :
        (∀ (rest3 done3 : List (List Half)) (n3 : Int), s.clauses = done3 ++ rest3 → n3 + clausesC rest3 + stepsC rest2 + partsC rest = T + rest.length → 0 ≤ n3 →
        WR2 _ _ _ _ _ (rest3.length + 1) [(0, lst Span.row l), (3, int .i64 n3), (4, int .i64 done.length), (5, int .i64 done2.length), (6, int .i64 done3.length)] []) → _) ?_
      clear m2 m3 e9
      intro rest3
      induction rest3 with
      | nil =>
        intro done3 n3 k1 k2 k3
        have hlen3 : s.clauses.length = done3.length := by rw [k1]; simp
        have q3 : decide ((done3.length : Int) < ((s.clauses.map crow).length : Int)) = false := by rw [decide_eq_false_iff_not, hzc]; omega
        have g3 := g3 n3 (by simpa [clausesC] using k2) k3
        refine wR (gI ?_)
        repeat' (first | ((first | refine C_r ?_ | refine C0_r ?_ | refine O_r ?_ | refine R_r ?_); (conv => whnf); first | (refine ⟨fun hb => ?_, fun hb => ?_⟩ <;> try exact no_way) | refine A_o ?_ | refine B_o ?_ | refine C_o ?_ | refine R_o ?_ | refine fR ?_ | refine fRk ?_ | refine F_o ?_) | refine SA_l ?_ | refine V_l ?_ | refine L_l ?_ | refine Q_l ?_ | refine X_l ?_ | refine Xa_l ?_ | refine Xs_l ?_ | refine K_l ?_ | refine Ka_l ?_ | refine Lk_l ?_ | refine Up_l ?_ | refine Del_l ?_ | refine St_l ?_ | refine LU_l ?_ | refine Xw_l ?_ | refine Le_l ?_ | refine Se_l ?_ | refine M_l ?_ | refine A_l ?_ | refine A0_l ?_ | refine A1_l ?_ | refine Mk_l ?_ | refine Kz_l ?_ | refine W_l ?_ | refine SA_d ?_ | refine V_d ?_ | refine L_d ?_ | refine Q_d ?_ | refine X_d ?_ | refine Xs_d ?_ | refine K_d ?_ | refine Ka_d ?_ | refine Lk_d ?_ | refine Up_d ?_ | refine A_d ?_ | refine A0_d ?_ | refine St_d ?_ | refine LU_d ?_ | refine Xw_d ?_ | refine Le_d ?_ | refine Se_d ?_ | refine M_d ?_ | refine Mk_d ?_ | refine N_d ?_ | refine Kz_d ?_ | refine W_d ?_ | fail)
        all_goals first | (rw [e8]; exact rE g3) | trace_state
      | cons c rest3 ih3 =>
        intro done3 n3 k1 k2 k3
        have hx3 : s.clauses[done3.length]? = some c := by rw [k1]; simp
        have hx3 : s.clauses[((done3.length : Int)).toNat]? = some c := hx3
        have hlen3 : s.clauses.length = done3.length + (rest3.length + 1) := by rw [k1]; simp
        have hcl := hsm.2 c (by rw [k1]; simp)
        have hzh : (c.map Half.row).length = c.length := by simp
        have q3 : decide ((done3.length : Int) < ((s.clauses.map crow).length : Int)) = true := by rw [decide_eq_true_eq, hzc]; omega
        have e9 : IntKind.i64.wrap ((done3.length : Int) + 1) = ((done3.length + 1 : Nat) : Int) := by rw [wrap_ok (by omega) (by omega)]; omega
        have w3 : IntKind.i64.wrap (IntKind.i64.wrap (n3 + 1) + ((c.map Half.row).length : Int)) = n3 + 1 + c.length := by
          rw [hzh, wrap_ok (n := n3 + 1) (by omega) (by omega), wrap_ok (by omega) (by omega)]
        rw [clausesC] at k2
        have g4 := ih3 (done3 ++ [c]) (n3 + 1 + c.length) (by rw [k1]; simp) (by omega) (by omega)
        rw [show (done3 ++ [c]).length = done3.length + 1 from by simp, ← w3] at g4
        clear ih3 g3 k1 w3
        refine wR (gI ?_)
        repeat' (first | ((first | refine C_r ?_ | refine C0_r ?_ | refine O_r ?_ | refine R_r ?_); (conv => whnf); first | (refine ⟨fun hb => ?_, fun hb => ?_⟩ <;> try exact no_way) | refine A_o ?_ | refine B_o ?_ | refine C_o ?_ | refine R_o ?_ | refine fR ?_ | refine fRk ?_ | refine F_o ?_) | refine SA_l ?_ | refine V_l ?_ | refine L_l ?_ | refine Q_l ?_ | refine X_l ?_ | refine Xa_l ?_ | refine Xs_l ?_ | refine K_l ?_ | refine Ka_l ?_ | refine Lk_l ?_ | refine Up_l ?_ | refine Del_l ?_ | refine St_l ?_ | refine LU_l ?_ | refine Xw_l ?_ | refine Le_l ?_ | refine Se_l ?_ | refine M_l ?_ | refine A_l ?_ | refine A0_l ?_ | refine A1_l ?_ | refine Mk_l ?_ | refine Kz_l ?_ | refine W_l ?_ | refine SA_d ?_ | refine V_d ?_ | refine L_d ?_ | refine Q_d ?_ | refine X_d ?_ | refine Xs_d ?_ | refine K_d ?_ | refine Ka_d ?_ | refine Lk_d ?_ | refine Up_d ?_ | refine A_d ?_ | refine A0_d ?_ | refine St_d ?_ | refine LU_d ?_ | refine Xw_d ?_ | refine Le_d ?_ | refine Se_d ?_ | refine M_d ?_ | refine Mk_d ?_ | refine N_d ?_ | refine Kz_d ?_ | refine W_d ?_ | fail)
        all_goals first | (rw [e9]; exact rE g4) | trace_state
end Go.Proofs.Ytcplpllbinilmaa
