/- The law FilesTell. -/
import Derived.Test.YtcmhpjnafkpofaaDoorFl7
import Derived.Test.YtcmhpjnafkpofaaDoorTy0
set_option linter.unusedVariables false
set_option linter.unusedSimpArgs false
namespace Go.Proofs.YtcmhpjnafkpofaaDoor
open Go Go.Am Go.Proofs
attribute [local irreducible] W WL DL WO RoundEnd
set_option maxRecDepth 10000
set_option maxHeartbeats 4000000
set_option linter.unusedVariables false
set_option linter.unusedSimpArgs false
theorem ba_refl (x : ByteArray) : (x == x) = true := by
  show (x.data == x.data) = true
  exact beq_self_eq_true _
theorem clean_lit1 : cleanA ⟨#[97, 47, 46, 47, 98, 47, 46, 46, 47, 99]⟩ = (⟨#[97, 47, 99]⟩, true) := by decide
theorem clean_lit2 : cleanA ⟨#[47, 97, 47, 47, 99]⟩ = (⟨#[97, 47, 99]⟩, true) := by decide
def aliveF : List File := [⟨⟨#[120]⟩, ⟨#[]⟩⟩, ⟨⟨#[97, 47, 99]⟩, ⟨#[]⟩⟩]
theorem find_lit : findA aliveF ⟨#[47, 97, 47, 47, 99]⟩ = (1, true) := by decide
theorem alive8 [GVals] : Comp Tryd.prog 9 [] (Am.bool true) := by
  have c1 := cleanR ⟨#[97, 47, 46, 47, 98, 47, 46, 46, 47, 99]⟩ (by decide)
  have c2 := findR aliveF ⟨#[47, 97, 47, 47, 99]⟩ (by decide) (by decide) (by decide)
  rw [clean_lit1] at c1
  rw [find_lit] at c2
  refine Spec.body (C := cx [] 28) fits (fn := Tryd.f9) Tryd.func9 rfl (by decide) (by decide) (gI ?_)
  repeat' (first | ((first | refine C_r ?_ | refine C0_r ?_ | refine O_r ?_ | refine R_r ?_); (conv => whnf); first | (refine ⟨fun hb => ?_, fun hb => ?_⟩ <;> try exact no_way) | refine A_o ?_ | refine B_o ?_ | refine C_o ?_ | refine R_o ?_ | refine fR ?_ | refine fRk ?_ | refine F_o ?_) | refine C_l (c1) ?_ | refine C_l (c2) ?_ | refine SA_l ?_ | refine V_l ?_ | refine L_l ?_ | refine Q_l ?_ | refine X_l ?_ | refine Xa_l ?_ | refine Xs_l ?_ | refine K_l ?_ | refine Ka_l ?_ | refine Lk_l ?_ | refine Up_l ?_ | refine Del_l ?_ | refine St_l ?_ | refine LU_l ?_ | refine Xw_l ?_ | refine Le_l ?_ | refine Se_l ?_ | refine M_l ?_ | refine A_l ?_ | refine A0_l ?_ | refine A1_l ?_ | refine Mk_l ?_ | refine Kz_l ?_ | refine W_l ?_ | refine C_d (c1) ?_ | refine C_d (c2) ?_ | refine SA_d ?_ | refine V_d ?_ | refine L_d ?_ | refine Q_d ?_ | refine X_d ?_ | refine Xs_d ?_ | refine K_d ?_ | refine Ka_d ?_ | refine Lk_d ?_ | refine Up_d ?_ | refine A_d ?_ | refine A0_d ?_ | refine St_d ?_ | refine LU_d ?_ | refine Xw_d ?_ | refine Le_d ?_ | refine Se_d ?_ | refine M_d ?_ | refine Mk_d ?_ | refine N_d ?_ | refine Kz_d ?_ | refine W_d ?_ | fail)
  all_goals first | exact ⟨rfl, rfl⟩ | trace_state
theorem filesTell [GVals] (l : List File) (a b : ByteArray) : Comp Tryd.prog 3 [lst File.row l, str a, str b] (Am.bool true) := by
  have c0 := alive8
  cases h1 : decide (((l.map File.row).length : Int) > 30) with
  | true =>
    refine Spec.body (C := cx [] 115) fits (fn := Tryd.f3) Tryd.func3 rfl (by decide) (by decide) (gI ?_)
    repeat' (first | ((first | refine C_r ?_ | refine C0_r ?_ | refine O_r ?_ | refine R_r ?_); (conv => whnf); first | (refine ⟨fun hb => ?_, fun hb => ?_⟩ <;> try exact no_way) | refine A_o ?_ | refine B_o ?_ | refine C_o ?_ | refine R_o ?_ | refine fR ?_ | refine fRk ?_ | refine F_o ?_) | refine C_l (c0) ?_ | refine SA_l ?_ | refine V_l ?_ | refine L_l ?_ | refine Q_l ?_ | refine X_l ?_ | refine Xa_l ?_ | refine Xs_l ?_ | refine K_l ?_ | refine Ka_l ?_ | refine Lk_l ?_ | refine Up_l ?_ | refine Del_l ?_ | refine St_l ?_ | refine LU_l ?_ | refine Xw_l ?_ | refine Le_l ?_ | refine Se_l ?_ | refine M_l ?_ | refine A_l ?_ | refine A0_l ?_ | refine A1_l ?_ | refine Mk_l ?_ | refine Kz_l ?_ | refine W_l ?_ | refine C_d (c0) ?_ | refine SA_d ?_ | refine V_d ?_ | refine L_d ?_ | refine Q_d ?_ | refine X_d ?_ | refine Xs_d ?_ | refine K_d ?_ | refine Ka_d ?_ | refine Lk_d ?_ | refine Up_d ?_ | refine A_d ?_ | refine A0_d ?_ | refine St_d ?_ | refine LU_d ?_ | refine Xw_d ?_ | refine Le_d ?_ | refine Se_d ?_ | refine M_d ?_ | refine Mk_d ?_ | refine N_d ?_ | refine Kz_d ?_ | refine W_d ?_ | fail)
    all_goals exact ⟨rfl, rfl⟩
  | false =>
  cases h2 : decide ((a.size : Int) > 200) with
  | true =>
    refine Spec.body (C := cx [] 115) fits (fn := Tryd.f3) Tryd.func3 rfl (by decide) (by decide) (gI ?_)
    repeat' (first | ((first | refine C_r ?_ | refine C0_r ?_ | refine O_r ?_ | refine R_r ?_); (conv => whnf); first | (refine ⟨fun hb => ?_, fun hb => ?_⟩ <;> try exact no_way) | refine A_o ?_ | refine B_o ?_ | refine C_o ?_ | refine R_o ?_ | refine fR ?_ | refine fRk ?_ | refine F_o ?_) | refine C_l (c0) ?_ | refine SA_l ?_ | refine V_l ?_ | refine L_l ?_ | refine Q_l ?_ | refine X_l ?_ | refine Xa_l ?_ | refine Xs_l ?_ | refine K_l ?_ | refine Ka_l ?_ | refine Lk_l ?_ | refine Up_l ?_ | refine Del_l ?_ | refine St_l ?_ | refine LU_l ?_ | refine Xw_l ?_ | refine Le_l ?_ | refine Se_l ?_ | refine M_l ?_ | refine A_l ?_ | refine A0_l ?_ | refine A1_l ?_ | refine Mk_l ?_ | refine Kz_l ?_ | refine W_l ?_ | refine C_d (c0) ?_ | refine SA_d ?_ | refine V_d ?_ | refine L_d ?_ | refine Q_d ?_ | refine X_d ?_ | refine Xs_d ?_ | refine K_d ?_ | refine Ka_d ?_ | refine Lk_d ?_ | refine Up_d ?_ | refine A_d ?_ | refine A0_d ?_ | refine St_d ?_ | refine LU_d ?_ | refine Xw_d ?_ | refine Le_d ?_ | refine Se_d ?_ | refine M_d ?_ | refine Mk_d ?_ | refine N_d ?_ | refine Kz_d ?_ | refine W_d ?_ | fail)
    all_goals exact ⟨rfl, rfl⟩
  | false =>
  cases h3 : decide ((b.size : Int) > 200) with
  | true =>
    refine Spec.body (C := cx [] 115) fits (fn := Tryd.f3) Tryd.func3 rfl (by decide) (by decide) (gI ?_)
    repeat' (first | ((first | refine C_r ?_ | refine C0_r ?_ | refine O_r ?_ | refine R_r ?_); (conv => whnf); first | (refine ⟨fun hb => ?_, fun hb => ?_⟩ <;> try exact no_way) | refine A_o ?_ | refine B_o ?_ | refine C_o ?_ | refine R_o ?_ | refine fR ?_ | refine fRk ?_ | refine F_o ?_) | refine C_l (c0) ?_ | refine SA_l ?_ | refine V_l ?_ | refine L_l ?_ | refine Q_l ?_ | refine X_l ?_ | refine Xa_l ?_ | refine Xs_l ?_ | refine K_l ?_ | refine Ka_l ?_ | refine Lk_l ?_ | refine Up_l ?_ | refine Del_l ?_ | refine St_l ?_ | refine LU_l ?_ | refine Xw_l ?_ | refine Le_l ?_ | refine Se_l ?_ | refine M_l ?_ | refine A_l ?_ | refine A0_l ?_ | refine A1_l ?_ | refine Mk_l ?_ | refine Kz_l ?_ | refine W_l ?_ | refine C_d (c0) ?_ | refine SA_d ?_ | refine V_d ?_ | refine L_d ?_ | refine Q_d ?_ | refine X_d ?_ | refine Xs_d ?_ | refine K_d ?_ | refine Ka_d ?_ | refine Lk_d ?_ | refine Up_d ?_ | refine A_d ?_ | refine A0_d ?_ | refine St_d ?_ | refine LU_d ?_ | refine Xw_d ?_ | refine Le_d ?_ | refine Se_d ?_ | refine M_d ?_ | refine Mk_d ?_ | refine N_d ?_ | refine Kz_d ?_ | refine W_d ?_ | fail)
    all_goals exact ⟨rfl, rfl⟩
  | false =>
  have hl : l.length ≤ 30 := by rw [decide_eq_false_iff_not, List.length_map] at h1; omega
  have ha : a.size ≤ 200 := by rw [decide_eq_false_iff_not] at h2; omega
  have hb : b.size ≤ 200 := by rw [decide_eq_false_iff_not] at h3; omega
  refine Spec.body (C := cx [] 115) fits (fn := Tryd.f3) Tryd.func3 rfl (by decide) (by decide) (gI ?_)
  repeat' (first | ((first | refine C_r ?_ | refine C0_r ?_ | refine O_r ?_ | refine R_r ?_); (conv => whnf); first | (refine ⟨fun hb => ?_, fun hb => ?_⟩ <;> try exact no_way) | refine A_o ?_ | refine B_o ?_ | refine C_o ?_ | refine R_o ?_ | refine fR ?_ | refine fRk ?_ | refine F_o ?_) | refine C_l (c0) ?_ | refine SA_l ?_ | refine V_l ?_ | refine L_l ?_ | refine Q_l ?_ | refine X_l ?_ | refine Xa_l ?_ | refine Xs_l ?_ | refine K_l ?_ | refine Ka_l ?_ | refine Lk_l ?_ | refine Up_l ?_ | refine Del_l ?_ | refine St_l ?_ | refine LU_l ?_ | refine Xw_l ?_ | refine Le_l ?_ | refine Se_l ?_ | refine M_l ?_ | refine A_l ?_ | refine A0_l ?_ | refine A1_l ?_ | refine Mk_l ?_ | refine Kz_l ?_ | refine W_l ?_ | refine C_d (c0) ?_ | refine SA_d ?_ | refine V_d ?_ | refine L_d ?_ | refine Q_d ?_ | refine X_d ?_ | refine Xs_d ?_ | refine K_d ?_ | refine Ka_d ?_ | refine Lk_d ?_ | refine Up_d ?_ | refine A_d ?_ | refine A0_d ?_ | refine St_d ?_ | refine LU_d ?_ | refine Xw_d ?_ | refine Le_d ?_ | refine Se_d ?_ | refine M_d ?_ | refine Mk_d ?_ | refine N_d ?_ | refine Kz_d ?_ | refine W_d ?_ | fail)
  clear c0 h1 h2 h3
  refine wLoop [0, 1, 2, 8] 0 (l.length + 1) ?_
  refine (fun key => key l [] 0 rfl rfl (fun x hx => by cases hx) :
    (∀ (rest done : List File) (j : Int), l = done ++ rest → j = done.length → (∀ x ∈ done, x.path.size ≤ 200) →
    WR2 _ _ _ _ _ (rest.length + 1) [(0, lst File.row l), (1, str a), (2, str b), (8, int .i64 j)] []) → _) ?_
  intro rest
  induction rest with
  | nil =>
    intro done j h1 hj hd
    rw [List.append_nil] at h1
    subst h1
    have hx : ∀ x ∈ l, x.path.size < 2 ^ 31 := fun x hx => by have := hd x hx; omega
    have c1 := cleanR a (by omega)
    have c2 := cleanDocR a (by omega)
    have c3 := findR l a (by omega) hx (by omega)
    have c4 := docFindR l a (by omega) hx (by omega)
    have c5 := filesJoinR a b (by omega) (by omega)
    have c6 := docJoinR a b (by omega) (by omega)
    have q : decide (j < ((l.map File.row).length : Int)) = false := by rw [decide_eq_false_iff_not, List.length_map]; omega
    generalize cleanA a = q1 at *
    generalize findA l a = q2 at *
    generalize joinA a b = q3 at *
    have e1 : (q1.1 == q1.1) = true := ba_refl _
    have e2 : (q2.1 == q2.1) = true := by simp
    have e3 : (q3.1 == q3.1) = true := ba_refl _
    clear hd
    refine wR (gI ?_)
    repeat' (first | ((first | refine C_r ?_ | refine C0_r ?_ | refine O_r ?_ | refine R_r ?_); (conv => whnf); first | (refine ⟨fun hb => ?_, fun hb => ?_⟩ <;> try exact no_way) | refine A_o ?_ | refine B_o ?_ | refine C_o ?_ | refine R_o ?_ | refine fR ?_ | refine fRk ?_ | refine F_o ?_) | refine C_l (c1) ?_ | refine C_l (c2) ?_ | refine C_l (c3) ?_ | refine C_l (c4) ?_ | refine C_l (c5) ?_ | refine C_l (c6) ?_ | refine SA_l ?_ | refine V_l ?_ | refine L_l ?_ | refine Q_l ?_ | refine X_l ?_ | refine Xa_l ?_ | refine Xs_l ?_ | refine K_l ?_ | refine Ka_l ?_ | refine Lk_l ?_ | refine Up_l ?_ | refine Del_l ?_ | refine St_l ?_ | refine LU_l ?_ | refine Xw_l ?_ | refine Le_l ?_ | refine Se_l ?_ | refine M_l ?_ | refine A_l ?_ | refine A0_l ?_ | refine A1_l ?_ | refine Mk_l ?_ | refine Kz_l ?_ | refine W_l ?_ | refine C_d (c1) ?_ | refine C_d (c2) ?_ | refine C_d (c3) ?_ | refine C_d (c4) ?_ | refine C_d (c5) ?_ | refine C_d (c6) ?_ | refine SA_d ?_ | refine V_d ?_ | refine L_d ?_ | refine Q_d ?_ | refine X_d ?_ | refine Xs_d ?_ | refine K_d ?_ | refine Ka_d ?_ | refine Lk_d ?_ | refine Up_d ?_ | refine A_d ?_ | refine A0_d ?_ | refine St_d ?_ | refine LU_d ?_ | refine Xw_d ?_ | refine Le_d ?_ | refine Se_d ?_ | refine M_d ?_ | refine Mk_d ?_ | refine N_d ?_ | refine Kz_d ?_ | refine W_d ?_ | fail)
    all_goals first | exact ⟨rfl, rfl⟩ | trace_state
  | cons x rest ih =>
    intro done j h1 hj hd
    have hlen : l.length = done.length + (rest.length + 1) := by rw [h1]; simp
    have q : decide (j < ((l.map File.row).length : Int)) = true := by rw [decide_eq_true_eq, List.length_map]; omega
    have hat : l[j.toNat]? = some x := by rw [h1, hj]; simp
    have g2 := at_of (f := File.row) hat
    have e7 : IntKind.i64.wrap (j + 1) = j + 1 := by rw [wrap_ok (by omega) (by omega)]
    have g := fun (h : x.path.size ≤ 200) => ih (done ++ [x]) (j + 1) (by rw [h1]; simp) (by rw [hj]; simp) (fun y hy => by
      rcases List.mem_append.1 hy with hy | hy
      · exact hd y hy
      · rw [List.mem_singleton] at hy; rw [hy]; exact h)
    clear ih hd
    obtain ⟨xp, xt⟩ := x
    refine wR (gI ?_)
    repeat' (first | ((first | refine C_r ?_ | refine C0_r ?_ | refine O_r ?_ | refine R_r ?_); (conv => whnf); first | (refine ⟨fun hb => ?_, fun hb => ?_⟩ <;> try exact no_way) | refine A_o ?_ | refine B_o ?_ | refine C_o ?_ | refine R_o ?_ | refine fR ?_ | refine fRk ?_ | refine F_o ?_) | refine SA_l ?_ | refine V_l ?_ | refine L_l ?_ | refine Q_l ?_ | refine X_l ?_ | refine Xa_l ?_ | refine Xs_l ?_ | refine K_l ?_ | refine Ka_l ?_ | refine Lk_l ?_ | refine Up_l ?_ | refine Del_l ?_ | refine St_l ?_ | refine LU_l ?_ | refine Xw_l ?_ | refine Le_l ?_ | refine Se_l ?_ | refine M_l ?_ | refine A_l ?_ | refine A0_l ?_ | refine A1_l ?_ | refine Mk_l ?_ | refine Kz_l ?_ | refine W_l ?_ | refine SA_d ?_ | refine V_d ?_ | refine L_d ?_ | refine Q_d ?_ | refine X_d ?_ | refine Xs_d ?_ | refine K_d ?_ | refine Ka_d ?_ | refine Lk_d ?_ | refine Up_d ?_ | refine A_d ?_ | refine A0_d ?_ | refine St_d ?_ | refine LU_d ?_ | refine Xw_d ?_ | refine Le_d ?_ | refine Se_d ?_ | refine M_d ?_ | refine Mk_d ?_ | refine N_d ?_ | refine Kz_d ?_ | refine W_d ?_ | fail)
    · exact ⟨rfl, rfl⟩
    · have hz : xp.size ≤ 200 := by
        have hb : ¬ ((xp.size : Int) > 200) := of_decide_eq_false hb
        omega
      rw [e7]; exact rE (g hz)
theorem str_typed {xs : List D} (h : Typed Tryd.prog 9 xs) : ∃ s : ByteArray, xs = [.sc (.string s)] ∧ s.size ≤ reachBytes := h.str_inv Tryd.underlying9
theorem file_typed {xs : List D} (h : Typed Tryd.prog 25 xs) : ∃ x : File, xs = x.row := by
  obtain ⟨xss, rfl, hn, hf⟩ := h.struct_inv Tryd.underlying25
  have hn : xss.length = 2 := by rw [hn]; rfl
  obtain ⟨a, b, rfl⟩ : ∃ a b, xss = [a, b] := by
    match xss, hn with
    | [a, b], _ => exact ⟨a, b, rfl⟩
  obtain ⟨n0, rfl, h0⟩ := str_typed (hf 0 _ a rfl rfl)
  obtain ⟨n1, rfl, h1⟩ := str_typed (hf 1 _ b rfl rfl)
  exact ⟨⟨n0, n1⟩, rfl⟩
theorem files_typed {xs : List D} (h : Typed Tryd.prog 22 xs) : ∃ l : List File, xs = [.list (l.map File.row)] := by
  obtain ⟨rows, rfl, hr, hs⟩ := h.slice_inv Tryd.underlying22
  obtain ⟨l, rfl, _⟩ := list_typed (f := File.row) (p := fun _ => True) (fun row _ h => by
    obtain ⟨x, rfl⟩ := file_typed h
    exact ⟨x, rfl, trivial⟩) hr
  exact ⟨l, rfl⟩
theorem filesTell_typed [GVals] {x0 x1 x2 : List D} (y0 : Typed Tryd.prog 22 x0) (y1 : Typed Tryd.prog 9 x1) (y2 : Typed Tryd.prog 9 x2) :
    Comp Tryd.prog 3 [argV (aggTy Tryd.prog 22) x0, argV (aggTy Tryd.prog 9) x1, argV (aggTy Tryd.prog 9) x2] (Am.bool true) := by
  have a0 : aggTy Tryd.prog 22 = false := by unfold aggTy; rw [Tryd.underlying22]
  have a1 : aggTy Tryd.prog 9 = false := by unfold aggTy; rw [Tryd.underlying9]
  rw [a0, a1]
  obtain ⟨l, rfl⟩ := files_typed y0
  obtain ⟨a, rfl, _⟩ := str_typed y1
  obtain ⟨b, rfl, _⟩ := str_typed y2
  exact filesTell l a b
end Go.Proofs.YtcmhpjnafkpofaaDoor
