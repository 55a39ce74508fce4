/- The law EmitMeans. -/
import Derived.Test.YtcplpllbinilmaaMn4
import Derived.Test.YtcplpllbinilmaaEoc
set_option linter.unusedVariables false
set_option linter.unusedSimpArgs false
namespace Go.Proofs.Ytcplpllbinilmaa
open Go Go.Am Go.Proofs
attribute [local irreducible] W WL DL WO RoundEnd
set_option maxRecDepth 100000
set_option maxHeartbeats 4000000
set_option linter.unusedVariables false
set_option linter.unusedSimpArgs false
def Dat.with (d : Dat) (arch : Int) : Dat := ⟨d.nr, arch, d.ip, d.a0, d.a1, d.a2, d.a3, d.a4, d.a5⟩
theorem means_facts (arch : Int) (ha : 0 ≤ arch ∧ arch < 2 ^ 32) (l : List Span) (d : Dat) (hd : d.ok) (hl : l.length < 2 ^ 60) (hs : ∀ x ∈ l, x.small ∧ x.rng) (hf : fewB l = true) (h : spansOk 0 l = true) :
    ∃ (out : List Sym) (v w : Int), Comp Try.prog 18 [int .u32 arch, lst Span.row l] (.tup [.one (.d (.list (out.map Sym.row))), .one (.d (.sc (.int .i64 0)))]) ∧
      Comp Try.prog 11 [lst Sym.row out] (bool true) ∧ (out.length : Int) ≤ 8 * partsC l + 8 ∧ out.length ≤ 30000 ∧
      Comp Try.prog 21 [lst Span.row l] (int .i64 (partsC l)) ∧ partsC l ≤ 7800 ∧
      Comp Try.prog 14 [lst Sym.row out, .agg (d.row.map .d)] (runV (v, true)) ∧
      Comp Try.prog 14 [lst Sym.row out, .agg ((d.with arch).row.map .d)] (runV (w, true)) ∧
      Comp Try.prog 22 [int .u32 arch, lst Span.row l, .agg ((d.with arch).row.map .d)] (int .u32 w) ∧ (v = w ∨ v = 2147483648) := by
  obtain ⟨out, _, c1, hr, hlen, hp, hk, hrun⟩ := emit_runs arch ha l hl hs hf h
  have hft := ok_fit h fun x hx => (hs x hx).2
  have hso := ok_sort h
  have hde : (d.with arch).ok := ⟨hd.1, ha, hd.2.2⟩
  have hcov := (ok_all l 0 h).2.2 d.nr hd.1.1 hd.1.2
  obtain ⟨k, x, hk1, hx, h1, h2⟩ := findI_eq d.nr l 0 hcov
  have hxm := List.mem_of_getElem? hx
  have hA := code_val (d.with arch) (word_nr _ hde.1) (word_arch _ hde.2.1) actK arch 2147483648 l hft hso x hxm h1 h2 Mach.zero
  rw [show ((d.with arch).arch == arch) = true from beq_self_eq_true arch, cond_true] at hA
  have r1 := hrun d hd
  have r2 := hrun (d.with arch) hde
  rw [hA] at r2
  have c5 := spansThis l hl (d.with arch) hde x k (by show findI d.nr l 0 = k; rw [hk1]; omega) hx (hs x hxm).1 (hft x hxm)
  have c2 := rightR out (by omega)
  rw [hr] at c2
  have c3 := partsR l hl (fun x hx => (hs x hx).1) hp
  cases hne : d.arch == arch with
  | true =>
    have he : d.with arch = d := by
      rw [beq_iff_eq] at hne
      rw [← hne]; rfl
    refine ⟨out, _, _, c1, c2, by omega, by omega, c3, hp, ?_, r2, c5, .inl rfl⟩
    rw [he] at r2 ⊢
    exact r2
  | false =>
    rw [code_other d (word_arch d hd.2.1) actK arch 2147483648 l hne] at r1
    exact ⟨out, _, _, c1, c2, by omega, by omega, c3, hp, r1, r2, c5, .inr rfl⟩
theorem emitMeans (arch : Int) (ha : 0 ≤ arch ∧ arch < 2 ^ 32) (l : List Span) (d : Dat) (hd : d.ok) (hl : l.length < 2 ^ 60) (hs : ∀ x ∈ l, x.small ∧ x.rng) :
    Comp Try.prog 6 [int .u32 arch, lst Span.row l, .agg (d.row.map .d)] (Am.bool true) := by
  have c0 := alive25
  have c1 := few25R l hl fun x hx => (hs x hx).1
  cases hf : fewB l with
  | false =>
    rw [hf] at c1
    refine Spec.body (C := cx [] 93) fits (fn := Try.f6) Try.func6 rfl (by decide) (by decide) (gI ?_)
    repeat' (first | ((first | refine C_r ?_ | refine C0_r ?_ | refine O_r ?_ | refine R_r ?_); (conv => whnf); first | (refine ⟨fun hb => ?_, fun hb => ?_⟩ <;> try exact no_way) | refine A_o ?_ | refine B_o ?_ | refine C_o ?_ | refine R_o ?_ | refine fR ?_ | refine fRk ?_ | refine F_o ?_) | refine C_l (c0) ?_ | refine C_l (c1) ?_ | refine SA_l ?_ | refine V_l ?_ | refine L_l ?_ | refine Q_l ?_ | refine X_l ?_ | refine Xa_l ?_ | refine Xs_l ?_ | refine K_l ?_ | refine Ka_l ?_ | refine Lk_l ?_ | refine Up_l ?_ | refine Del_l ?_ | refine St_l ?_ | refine LU_l ?_ | refine Xw_l ?_ | refine Le_l ?_ | refine Se_l ?_ | refine M_l ?_ | refine A_l ?_ | refine A0_l ?_ | refine A1_l ?_ | refine Mk_l ?_ | refine Kz_l ?_ | refine W_l ?_ | refine C_d (c0) ?_ | refine C_d (c1) ?_ | refine SA_d ?_ | refine V_d ?_ | refine L_d ?_ | refine Q_d ?_ | refine X_d ?_ | refine Xs_d ?_ | refine K_d ?_ | refine Ka_d ?_ | refine Lk_d ?_ | refine Up_d ?_ | refine A_d ?_ | refine A0_d ?_ | refine St_d ?_ | refine LU_d ?_ | refine Xw_d ?_ | refine Le_d ?_ | refine Se_d ?_ | refine M_d ?_ | refine Mk_d ?_ | refine N_d ?_ | refine Kz_d ?_ | refine W_d ?_ | fail)
    all_goals exact ⟨rfl, rfl⟩
  | true =>
    rw [hf] at c1
    have h60 : l.length ≤ 60 := (few_eq hf).1
    have c2 := refSpansR l hl fun x hx => (hs x hx).1
    cases h : spansOk 0 l with
    | false =>
      rw [h] at c2
      have c3 := codeNo arch l hl (fun x hx => (hs x hx).1) h
      have c4 := num25 1
      refine Spec.body (C := cx [] 93) fits (fn := Try.f6) Try.func6 rfl (by decide) (by decide) (gI ?_)
      repeat' (first | ((first | refine C_r ?_ | refine C0_r ?_ | refine O_r ?_ | refine R_r ?_); (conv => whnf); first | (refine ⟨fun hb => ?_, fun hb => ?_⟩ <;> try exact no_way) | refine A_o ?_ | refine B_o ?_ | refine C_o ?_ | refine R_o ?_ | refine fR ?_ | refine fRk ?_ | refine F_o ?_) | refine C_l (c0) ?_ | refine C_l (c1) ?_ | refine C_l (c2) ?_ | refine C_l (c3) ?_ | refine C_l (c4) ?_ | refine SA_l ?_ | refine V_l ?_ | refine L_l ?_ | refine Q_l ?_ | refine X_l ?_ | refine Xa_l ?_ | refine Xs_l ?_ | refine K_l ?_ | refine Ka_l ?_ | refine Lk_l ?_ | refine Up_l ?_ | refine Del_l ?_ | refine St_l ?_ | refine LU_l ?_ | refine Xw_l ?_ | refine Le_l ?_ | refine Se_l ?_ | refine M_l ?_ | refine A_l ?_ | refine A0_l ?_ | refine A1_l ?_ | refine Mk_l ?_ | refine Kz_l ?_ | refine W_l ?_ | refine C_d (c0) ?_ | refine C_d (c1) ?_ | refine C_d (c2) ?_ | refine C_d (c3) ?_ | refine C_d (c4) ?_ | refine SA_d ?_ | refine V_d ?_ | refine L_d ?_ | refine Q_d ?_ | refine X_d ?_ | refine Xs_d ?_ | refine K_d ?_ | refine Ka_d ?_ | refine Lk_d ?_ | refine Up_d ?_ | refine A_d ?_ | refine A0_d ?_ | refine St_d ?_ | refine LU_d ?_ | refine Xw_d ?_ | refine Le_d ?_ | refine Se_d ?_ | refine M_d ?_ | refine Mk_d ?_ | refine N_d ?_ | refine Kz_d ?_ | refine W_d ?_ | fail)
      all_goals exact ⟨rfl, rfl⟩
    | true =>
      rw [h] at c2
      obtain ⟨out, v, w, c3, c4, hlen, hmax, c5, hp, c6, c7, c8, hvw⟩ := means_facts arch ha l d hd hl hs hf h
      have c9 := num25 0
      unfold runV at c6 c7
      have q1 : decide (((out.map Sym.row).length : Int) > IntKind.i64.wrap (IntKind.i64.wrap (8 * (partsC l : Int)) + 8)) = false := by
        rw [decide_eq_false_iff_not, List.length_map, wrap_ok (n := 8 * (partsC l : Int)) (by omega) (by omega), wrap_ok (by omega) (by omega)]; omega
      have q2 : (!(w == w)) = false := by simp
      unfold Dat.with at c7 c8
      obtain ⟨nr, ar, ip, a0, a1, a2, a3, a4, a5⟩ := d
      refine Spec.body (C := cx [] 93) fits (fn := Try.f6) Try.func6 rfl (by decide) (by decide) (gI ?_)
      repeat' (first | ((first | refine C_r ?_ | refine C0_r ?_ | refine O_r ?_ | refine R_r ?_); (conv => whnf); first | (refine ⟨fun hb => ?_, fun hb => ?_⟩ <;> try exact no_way) | refine A_o ?_ | refine B_o ?_ | refine C_o ?_ | refine R_o ?_ | refine fR ?_ | refine fRk ?_ | refine F_o ?_) | refine C_l (c0) ?_ | refine C_l (c1) ?_ | refine C_l (c2) ?_ | refine C_l (c3) ?_ | refine C_l (c4) ?_ | refine C_l (c5) ?_ | refine C_l (c6) ?_ | refine C_l (c7) ?_ | refine C_l (c8) ?_ | refine C_l (c9) ?_ | refine SA_l ?_ | refine V_l ?_ | refine L_l ?_ | refine Q_l ?_ | refine X_l ?_ | refine Xa_l ?_ | refine Xs_l ?_ | refine K_l ?_ | refine Ka_l ?_ | refine Lk_l ?_ | refine Up_l ?_ | refine Del_l ?_ | refine St_l ?_ | refine LU_l ?_ | refine Xw_l ?_ | refine Le_l ?_ | refine Se_l ?_ | refine M_l ?_ | refine A_l ?_ | refine A0_l ?_ | refine A1_l ?_ | refine Mk_l ?_ | refine Kz_l ?_ | refine W_l ?_ | refine C_d (c0) ?_ | refine C_d (c1) ?_ | refine C_d (c2) ?_ | refine C_d (c3) ?_ | refine C_d (c4) ?_ | refine C_d (c5) ?_ | refine C_d (c6) ?_ | refine C_d (c7) ?_ | refine C_d (c8) ?_ | refine C_d (c9) ?_ | refine SA_d ?_ | refine V_d ?_ | refine L_d ?_ | refine Q_d ?_ | refine X_d ?_ | refine Xs_d ?_ | refine K_d ?_ | refine Ka_d ?_ | refine Lk_d ?_ | refine Up_d ?_ | refine A_d ?_ | refine A0_d ?_ | refine St_d ?_ | refine LU_d ?_ | refine Xw_d ?_ | refine Le_d ?_ | refine Se_d ?_ | refine M_d ?_ | refine Mk_d ?_ | refine N_d ?_ | refine Kz_d ?_ | refine W_d ?_ | fail)
      all_goals first
        | exact ⟨rfl, rfl⟩
        | (rename_i z
           rcases hvw with e | e
           · exact absurd (show (v == w) = false from z) (by simp [e])
           · exact absurd (show (v == 2147483648) = false from hb) (by simp [e]))
theorem emitMeans_typed {x0 x1 x2 : List D} (y0 : Typed Try.prog 23 x0) (y1 : Typed Try.prog 45 x1) (y2 : Typed Try.prog 27 x2) :
    Comp Try.prog 6 [argV (aggTy Try.prog 23) x0, argV (aggTy Try.prog 45) x1, argV (aggTy Try.prog 27) x2] (Am.bool true) := by
  obtain ⟨arch, rfl, ha⟩ := u32_typed y0
  obtain ⟨l, rfl, hl, hs⟩ := spans_typed y1
  obtain ⟨d, rfl, hd⟩ := data_typed y2
  unfold aggTy
  rw [Try.underlying23, Try.underlying45, Try.underlying27]
  exact emitMeans arch ha l d hd hl hs
end Go.Proofs.Ytcplpllbinilmaa
