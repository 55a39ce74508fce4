/- The law LabelRuns. -/
import Derived.Test.YtcplpllbinilmaaLab18
import Derived.Test.YtcplpllbinilmaaTy0
import Derived.Test.YtcplpllbinilmaaEvx
set_option linter.unusedVariables false
set_option linter.unusedSimpArgs false
namespace Go.Proofs.Ytcplpllbinilmaa
open Go Go.Am Go.Proofs
attribute [local irreducible] W WL DL WO RoundEnd
set_option maxRecDepth 100000
set_option maxHeartbeats 4000000
set_option linter.unusedVariables false
set_option linter.unusedSimpArgs false
theorem alive24 : Comp Try.prog 9 [] (Am.bool true) := ev_true noHook_ok (d := 200) (by kernel_rfl)
theorem num24 (e : Int) : Comp Try.prog 12 [int .i64 e] (int .i64 e) := by
  refine Spec.body (C := cx [] 4) fits (fn := Try.f12) Try.func12 rfl (by decide) (by decide) (gI ?_)
  repeat' (first | ((first | refine C_r ?_ | refine C0_r ?_ | refine O_r ?_ | refine R_r ?_); (conv => whnf); first | (refine ⟨fun hb => ?_, fun hb => ?_⟩ <;> try exact no_way) | refine A_o ?_ | refine B_o ?_ | refine C_o ?_ | refine R_o ?_ | refine fR ?_ | refine fRk ?_ | refine F_o ?_) | refine SA_l ?_ | refine V_l ?_ | refine L_l ?_ | refine Q_l ?_ | refine X_l ?_ | refine Xa_l ?_ | refine Xs_l ?_ | refine K_l ?_ | refine Ka_l ?_ | refine Lk_l ?_ | refine Up_l ?_ | refine Del_l ?_ | refine St_l ?_ | refine LU_l ?_ | refine Xw_l ?_ | refine Le_l ?_ | refine Se_l ?_ | refine M_l ?_ | refine A_l ?_ | refine A0_l ?_ | refine A1_l ?_ | refine Mk_l ?_ | refine Kz_l ?_ | refine W_l ?_ | fail)
  exact ⟨rfl, rfl⟩
theorem zz0 : -9223372036854775808 ≤ (0 : Int) ∧ (0 : Int) < 9223372036854775808 := by decide
theorem ins_ok (m : LM) (pl : List Int) (fa : List (Bool × Bool)) (i : Nat) (x : Sym) (hb : ∀ n, 0 ≤ getI pl n ∧ getI pl n ≤ 2 ^ 42) (hk : 0 ≤ x.k ∧ x.k < 2 ^ 32) : ∀ y ∈ insF m pl fa i x, y.ok := by
  have h1 := hb i
  have h2 := hb (goesF m i x.t).1
  have h3 := hb (goesF m i x.f).1
  have ja : ∀ k : Int, (⟨5, 0, 0, IntKind.wrap .u32 k⟩ : Ins).ok := by
    intro k
    have := w32_ok k
    exact ⟨zz0, zz0, this.1, this.2⟩
  unfold insF
  cases isJumpF x.code with
  | false =>
    simp only [cond_false]
    cases x.code == 5 with
    | true =>
      intro y hy
      simp only [cond_true, List.mem_singleton] at hy
      subst hy; exact ja _
    | false =>
      intro y hy
      simp only [cond_false, List.mem_singleton] at hy
      subst hy
      exact ⟨zz0, zz0, hk.1, hk.2⟩
  | true =>
    simp only [cond_true]
    unfold jumpF tgtF
    generalize getI pl i = s at *
    generalize getI pl (goesF m i x.t).1 = t at *
    generalize getI pl (goesF m i x.f).1 = f at *
    obtain ⟨a, b⟩ := getB fa i
    intro y hy
    rcases List.mem_cons.1 hy with rfl | hy
    · refine ⟨?_, ?_, hk.1, hk.2⟩
      · cases a <;> simp only [cond_true, cond_false] <;> omega
      · cases b <;> cases a <;> simp only [cond_true, cond_false] <;> omega
    · rcases List.mem_append.1 hy with hy | hy
      · cases a with
        | false => simp at hy
        | true => simp only [cond_true, List.mem_singleton] at hy; subst hy; exact ja _
      · cases b with
        | false => simp at hy
        | true => simp only [cond_true, List.mem_singleton] at hy; subst hy; exact ja _
theorem out_ok (m : LM) (pl : List Int) (fa : List (Bool × Bool)) (hb : ∀ n, 0 ≤ getI pl n ∧ getI pl n ≤ 2 ^ 42) : ∀ (l : List Sym) (i : Nat), (∀ x ∈ l, 0 ≤ x.k ∧ x.k < 2 ^ 32) → ∀ y ∈ outG m pl fa i l, y.ok
  | [], i, _, y, hy => by cases hy
  | x :: r, i, hk, y, hy => by
    rw [outG] at hy
    rcases List.mem_append.1 hy with hy | hy
    · exact ins_ok m pl fa i x hb (hk x (by simp)) y hy
    · exact out_ok m pl fa hb r (i + 1) (fun z hz => hk z (by simp [hz])) y hy
/-- what is linked, and how it runs -/
theorem link_runs {l : List Sym} (hl : l.length ≤ 1365) (hr : rightF l = true) (hk : ∀ x ∈ l, 0 ≤ x.k ∧ x.k < 2 ^ 32) :
    ∃ out : List Ins, Comp Try.prog 10 [lst Sym.row l] (.tup [.one (.d (.list (out.map Ins.row))), .one (.d (.sc (.int .i64 0)))]) ∧ out = outL l (linkM l) (linkFa l) ∧ 1 ≤ out.length ∧ out.length ≤ 3 * l.length ∧ (∀ x ∈ out, x.ok) ∧
      ∀ (d : Dat) (mach : Mach), ∃ n : Int, runF out d 4096 0 0 mach = ((runSyms l d (l.length + 1) 0 mach).1, n, (runSyms l d (l.length + 1) 0 mach).2) := by
  have hf := fin_link hr
  have hlen := outL_len hf
  have hsc := sumC_le (linkFa l)
  have hfl := hf.len
  have hpos : 1 ≤ l.length := by
    cases l with
    | nil => unfold rightF at hr; simp at hr
    | cons x r => simp
  refine ⟨_, linkYes l hl hr, rfl, by omega, by omega, out_ok _ _ _ (fun n => by have := getI_lay (fa := linkFa l) n; omega) l 0 hk, fun d mach => ?_⟩
  have hs := link_sim hf (by omega) d l.length (l.length + 1) 4096 0 0 mach (by omega) (by omega) (by omega) (by omega)
  have h0 : posN (linkFa l) 0 = 0 := rfl
  rw [h0] at hs
  exact ⟨(runF (outL l (linkM l) (linkFa l)) d 4096 0 0 mach).2.1, Prod.ext hs.1 (Prod.ext rfl hs.2)⟩
theorem labelRuns (l : List Sym) (d : Dat) (hd : d.ok) (hl : l.length < 2 ^ 40) (hk : ∀ x ∈ l, 0 ≤ x.k ∧ x.k < 2 ^ 32) : Comp Try.prog 3 [lst Sym.row l, .agg (d.row.map .d)] (Am.bool true) := by
  have c0 := alive24
  have hz : (l.map Sym.row).length = l.length := by simp
  cases b1 : decide (((l.map Sym.row).length : Int) > 400) with
  | true =>
    refine Spec.body (C := cx [] 76) fits (fn := Try.f3) Try.func3 rfl (by decide) (by decide) (gI ?_)
    repeat' (first | ((first | refine C_r ?_ | refine C0_r ?_ | refine O_r ?_ | refine R_r ?_); (conv => whnf); first | (refine ⟨fun hb => ?_, fun hb => ?_⟩ <;> try exact no_way) | refine A_o ?_ | refine B_o ?_ | refine C_o ?_ | refine R_o ?_ | refine fR ?_ | refine fRk ?_ | refine F_o ?_) | refine C_l (c0) ?_ | refine SA_l ?_ | refine V_l ?_ | refine L_l ?_ | refine Q_l ?_ | refine X_l ?_ | refine Xa_l ?_ | refine Xs_l ?_ | refine K_l ?_ | refine Ka_l ?_ | refine Lk_l ?_ | refine Up_l ?_ | refine Del_l ?_ | refine St_l ?_ | refine LU_l ?_ | refine Xw_l ?_ | refine Le_l ?_ | refine Se_l ?_ | refine M_l ?_ | refine A_l ?_ | refine A0_l ?_ | refine A1_l ?_ | refine Mk_l ?_ | refine Kz_l ?_ | refine W_l ?_ | fail)
    all_goals exact ⟨rfl, rfl⟩
  | false =>
    have hl4 : l.length ≤ 400 := by rw [decide_eq_false_iff_not] at b1; omega
    have c2 := rightR l hl
    cases hr : rightF l with
    | false =>
      rw [hr] at c2
      have c1 := linkNo l (by omega) hr
      have c3 := num24 1
      refine Spec.body (C := cx [] 76) fits (fn := Try.f3) Try.func3 rfl (by decide) (by decide) (gI ?_)
      repeat' (first | ((first | refine C_r ?_ | refine C0_r ?_ | refine O_r ?_ | refine R_r ?_); (conv => whnf); first | (refine ⟨fun hb => ?_, fun hb => ?_⟩ <;> try exact no_way) | refine A_o ?_ | refine B_o ?_ | refine C_o ?_ | refine R_o ?_ | refine fR ?_ | refine fRk ?_ | refine F_o ?_) | refine C_l (c0) ?_ | refine C_l (c1) ?_ | refine C_l (c2) ?_ | refine C_l (c3) ?_ | refine SA_l ?_ | refine V_l ?_ | refine L_l ?_ | refine Q_l ?_ | refine X_l ?_ | refine Xa_l ?_ | refine Xs_l ?_ | refine K_l ?_ | refine Ka_l ?_ | refine Lk_l ?_ | refine Up_l ?_ | refine Del_l ?_ | refine St_l ?_ | refine LU_l ?_ | refine Xw_l ?_ | refine Le_l ?_ | refine Se_l ?_ | refine M_l ?_ | refine A_l ?_ | refine A0_l ?_ | refine A1_l ?_ | refine Mk_l ?_ | refine Kz_l ?_ | refine W_l ?_ | fail)
      all_goals exact ⟨rfl, rfl⟩
    | true =>
      rw [hr] at c2
      obtain ⟨out, c1, _, h1, h2, hok, hrun⟩ := link_runs (by omega) hr hk
      have c3 := num24 0
      have c4 := runR out d (by omega) hd hok
      have c5 := runSymsR l d hl hd hr hk
      obtain ⟨n, hn⟩ := hrun d Mach.zero
      rw [hn] at c4
      clear hn hrun
      generalize runSyms l d (l.length + 1) 0 Mach.zero = q at *
      obtain ⟨v, ok⟩ := q
      have q1 : decide (((out.map Ins.row).length : Int) < 1) = false := by rw [decide_eq_false_iff_not, List.length_map]; omega
      have q2 : decide (((out.map Ins.row).length : Int) > IntKind.i64.wrap (3 * ((l.map Sym.row).length : Int))) = false := by
        rw [decide_eq_false_iff_not, hz, List.length_map, wrap_ok (by omega) (by omega)]; omega
      have q3 : (v == v) = true := by simp
      have q4 : (ok == ok) = true := by simp
      unfold run3V at c4
      unfold runV at c5
      refine Spec.body (C := cx [] 76) fits (fn := Try.f3) Try.func3 rfl (by decide) (by decide) (gI ?_)
      repeat' (first | ((first | refine C_r ?_ | refine C0_r ?_ | refine O_r ?_ | refine R_r ?_); (conv => whnf); first | (refine ⟨fun hb => ?_, fun hb => ?_⟩ <;> try exact no_way) | refine A_o ?_ | refine B_o ?_ | refine C_o ?_ | refine R_o ?_ | refine fR ?_ | refine fRk ?_ | refine F_o ?_) | refine C_l (c0) ?_ | refine C_l (c1) ?_ | refine C_l (c2) ?_ | refine C_l (c3) ?_ | refine C_l (c4) ?_ | refine C_l (c5) ?_ | refine SA_l ?_ | refine V_l ?_ | refine L_l ?_ | refine Q_l ?_ | refine X_l ?_ | refine Xa_l ?_ | refine Xs_l ?_ | refine K_l ?_ | refine Ka_l ?_ | refine Lk_l ?_ | refine Up_l ?_ | refine Del_l ?_ | refine St_l ?_ | refine LU_l ?_ | refine Xw_l ?_ | refine Le_l ?_ | refine Se_l ?_ | refine M_l ?_ | refine A_l ?_ | refine A0_l ?_ | refine A1_l ?_ | refine Mk_l ?_ | refine Kz_l ?_ | refine W_l ?_ | fail)
      all_goals first | exact ⟨rfl, rfl⟩ | exact ⟨by rw [q4]; rfl, rfl⟩ | trace_state
theorem u32_typed {xs : List D} (h : Typed Try.prog 23 xs) : ∃ n : Int, xs = [.sc (.int .u32 n)] ∧ 0 ≤ n ∧ n < 2 ^ 32 := by
  obtain ⟨n, rfl, w⟩ := h.int_inv Try.underlying23
  exact ⟨n, rfl, u32_wf w⟩
theorem u64_typed {xs : List D} (h : Typed Try.prog 24 xs) : ∃ n : Int, xs = [.sc (.int .u64 n)] ∧ 0 ≤ n ∧ n < 2 ^ 64 := by
  obtain ⟨n, rfl, w⟩ := h.int_inv Try.underlying24
  exact ⟨n, rfl, u64_wf w⟩
theorem arr_inv {P : Program} {t e : TypeId} {n : Nat} {xs : List D} (h : Typed P t xs) (hu : P.underlying t = some (.array n e)) : ∃ xss : List (List D), xs = xss.flatten ∧ xss.length = n ∧ ∀ ys ∈ xss, Typed P e ys := by
  cases h with
  | array _ n' e' xss h' hn hx => rw [hu] at h'; injection h' with h'; injection h' with h1 h2; subst h1; subst h2; exact ⟨xss, rfl, hn, hx⟩
  | _ => simp_all
theorem sym_typed {xs : List D} (h : Typed Try.prog 41 xs) : ∃ x : Sym, xs = x.row ∧ 0 ≤ x.k ∧ x.k < 2 ^ 32 := by
  obtain ⟨xss, rfl, hn, hf⟩ := h.struct_inv Try.underlying41
  rcases xss with _ | ⟨a, _ | ⟨b, _ | ⟨c, _ | ⟨d, _ | ⟨e, _ | ⟨g, r⟩⟩⟩⟩⟩⟩
  all_goals try (simp at hn; done)
  obtain ⟨n0, rfl, _⟩ := (hf 0 _ a rfl rfl).int_inv Try.underlying3
  obtain ⟨n1, rfl, _⟩ := (hf 1 _ b rfl rfl).int_inv Try.underlying3
  obtain ⟨n2, rfl, _⟩ := (hf 2 _ c rfl rfl).int_inv Try.underlying3
  obtain ⟨n3, rfl, _⟩ := (hf 3 _ d rfl rfl).int_inv Try.underlying3
  obtain ⟨n4, rfl, h4⟩ := u32_typed (hf 4 _ e rfl rfl)
  exact ⟨⟨n0, n1, n2, n3, n4⟩, rfl, h4⟩
theorem syms_typed {xs : List D} (h : Typed Try.prog 22 xs) : ∃ l : List Sym, xs = [.list (l.map Sym.row)] ∧ (∀ x ∈ l, 0 ≤ x.k ∧ x.k < 2 ^ 32) ∧ l.length < 2 ^ 45 := by
  obtain ⟨rows, rfl, hr, hs⟩ := h.slice_inv Try.underlying22
  obtain ⟨l, rfl, hl⟩ := list_typed (fun _ _ h => sym_typed h) hr
  have hb : Try.prog.bytesOf 41 = 40 := by kernel_rfl
  rw [hb, List.length_map] at hs
  exact ⟨l, rfl, hl, by have : reachBytes = 140737488351232 := rfl; omega⟩
theorem data_typed {xs : List D} (h : Typed Try.prog 27 xs) : ∃ d : Dat, xs = d.row ∧ d.ok := by
  obtain ⟨xss, rfl, hn, hf⟩ := h.struct_inv Try.underlying27
  rcases xss with _ | ⟨a, _ | ⟨b, _ | ⟨c, _ | ⟨d, _ | ⟨e, r⟩⟩⟩⟩⟩
  all_goals try (simp at hn; done)
  obtain ⟨n0, rfl, h0⟩ := u32_typed (hf 0 _ a rfl rfl)
  obtain ⟨n1, rfl, h1⟩ := u32_typed (hf 1 _ b rfl rfl)
  obtain ⟨n2, rfl, h2⟩ := u64_typed (hf 2 _ c rfl rfl)
  obtain ⟨yss, rfl, hm, hg⟩ := arr_inv (hf 3 _ d rfl rfl) Try.underlying25
  rcases yss with _ | ⟨y0, _ | ⟨y1, _ | ⟨y2, _ | ⟨y3, _ | ⟨y4, _ | ⟨y5, _ | ⟨y6, r⟩⟩⟩⟩⟩⟩⟩
  all_goals try (simp at hm; done)
  obtain ⟨m0, rfl, g0⟩ := u64_typed (hg y0 (by simp))
  obtain ⟨m1, rfl, g1⟩ := u64_typed (hg y1 (by simp))
  obtain ⟨m2, rfl, g2⟩ := u64_typed (hg y2 (by simp))
  obtain ⟨m3, rfl, g3⟩ := u64_typed (hg y3 (by simp))
  obtain ⟨m4, rfl, g4⟩ := u64_typed (hg y4 (by simp))
  obtain ⟨m5, rfl, g5⟩ := u64_typed (hg y5 (by simp))
  exact ⟨⟨n0, n1, n2, m0, m1, m2, m3, m4, m5⟩, rfl, h0, h1, h2, g0, g1, g2, g3, g4, g5⟩
theorem labelRuns_typed {x0 x1 : List D} (y0 : Typed Try.prog 22 x0) (y1 : Typed Try.prog 27 x1) : Comp Try.prog 3 [argV (aggTy Try.prog 22) x0, argV (aggTy Try.prog 27) x1] (Am.bool true) := by
  have a0 : aggTy Try.prog 22 = false := by unfold aggTy; rw [Try.underlying22]
  have a1 : aggTy Try.prog 27 = true := by unfold aggTy; rw [Try.underlying27]
  obtain ⟨l, rfl, hk, hl⟩ := syms_typed y0
  obtain ⟨d, rfl, hd⟩ := data_typed y1
  rw [a0, a1]
  by_cases hb : l.length < 2 ^ 40
  · exact labelRuns l d hd hb hk
  · have c0 := alive24
    have b1 : decide (((l.map Sym.row).length : Int) > 400) = true := by rw [decide_eq_true_eq, List.length_map]; omega
    show Comp Try.prog 3 [lst Sym.row l, .agg (d.row.map .d)] (Am.bool true)
    refine Spec.body (C := cx [] 76) fits (fn := Try.f3) Try.func3 rfl (by decide) (by decide) (gI ?_)
    repeat' (first | ((first | refine C_r ?_ | refine C0_r ?_ | refine O_r ?_ | refine R_r ?_); (conv => whnf); first | (refine ⟨fun hb => ?_, fun hb => ?_⟩ <;> try exact no_way) | refine A_o ?_ | refine B_o ?_ | refine C_o ?_ | refine R_o ?_ | refine fR ?_ | refine fRk ?_ | refine F_o ?_) | refine C_l (c0) ?_ | refine SA_l ?_ | refine V_l ?_ | refine L_l ?_ | refine Q_l ?_ | refine X_l ?_ | refine Xa_l ?_ | refine Xs_l ?_ | refine K_l ?_ | refine Ka_l ?_ | refine Lk_l ?_ | refine Up_l ?_ | refine Del_l ?_ | refine St_l ?_ | refine LU_l ?_ | refine Xw_l ?_ | refine Le_l ?_ | refine Se_l ?_ | refine M_l ?_ | refine A_l ?_ | refine A0_l ?_ | refine A1_l ?_ | refine Mk_l ?_ | refine Kz_l ?_ | refine W_l ?_ | fail)
    all_goals exact ⟨rfl, rfl⟩
end Go.Proofs.Ytcplpllbinilmaa
