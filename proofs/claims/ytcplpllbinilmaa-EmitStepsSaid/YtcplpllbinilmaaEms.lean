/- The law EmitSteps. -/
import Derived.Test.YtcplpllbinilmaaEms0
import Derived.Test.YtcplpllbinilmaaEoc
set_option linter.unusedVariables false
set_option linter.unusedSimpArgs false
namespace Go.Proofs.Ytcplpllbinilmaa
open Go Go.Am Go.Proofs
attribute [local irreducible] W WL DL WO RoundEnd
set_option maxRecDepth 10000
set_option maxHeartbeats 4000000
set_option linter.unusedVariables false
set_option linter.unusedSimpArgs false
def u32row (n : Int) : List D := [.sc (.int .u32 n)]
theorem cutsNo (cuts : List Int) (nr arch : Int) (h : 60 < cuts.length) : Comp Try.prog 8 [lst u32row cuts, int .u32 nr, int .u32 arch] (Am.bool true) := by
  have c0 := alive25
  have b1 : decide (((cuts.map u32row).length : Int) > 60) = true := by rw [decide_eq_true_eq, List.length_map]; omega
  refine Spec.body (C := cx [(8, false)] 158) fits (fn := Try.f8) Try.func8 rfl (by decide) (by decide) (gI ?_)
  repeat' (first | ((first | refine C_r ?_ | refine O_r ?_); (conv => whnf); first | (refine ⟨fun hb => ?_, fun hb => ?_⟩ <;> try exact no_way) | refine B_o ?_ | refine fR ?_) | refine C_l (c0) ?_ | fail)
  all_goals exact ⟨rfl, rfl⟩
theorem wrap64 {c : Int} (h : 0 ≤ c ∧ c < 2 ^ 32) : IntKind.u64.wrap c = c := by
  simp [IntKind.wrap, IntKind.bits, IntKind.signed]; omega
theorem wrapV {c : Int} (h0 : 0 ≤ c) (h : c < 2 ^ 33) : IntKind.u64.wrap c = c := by
  simp [IntKind.wrap, IntKind.bits, IntKind.signed]; omega
theorem shl_eq (k : Nat) (h : k ≤ 6) : IntKind.i64.wrap (1 * 2 ^ min (IntKind.u64.wrap (k : Int)).toNat IntKind.i64.bits) = 2 ^ k := by
  have : k = 0 ∨ k = 1 ∨ k = 2 ∨ k = 3 ∨ k = 4 ∨ k = 5 ∨ k = 6 := by omega
  rcases this with h | h | h | h | h | h | h <;> subst h <;> rfl
theorem cut_row (S : List Span) (fr c : Int) (i : Nat) : S.map Span.row ++ [[D.sc (.int .u32 fr), .sc (.int .u32 c), .list [], .sc (.int .i64 4), .sc (.int .i64 i)]] = (S ++ [cutX fr c i]).map Span.row := by
  rw [List.map_append]; rfl
theorem emitSteps (cuts : List Int) (nr arch : Int) (hl : ¬ 60 < cuts.length) (hc : ∀ c ∈ cuts, 0 ≤ c ∧ c < 2 ^ 32) (hnr : 0 ≤ nr ∧ nr < 2 ^ 32) (ha : 0 ≤ arch ∧ arch < 2 ^ 32) : Comp Try.prog 8 [lst u32row cuts, int .u32 nr, int .u32 arch] (Am.bool true) := by
  have c0 := alive25
  have b1 : decide (((cuts.map u32row).length : Int) > 60) = false := by rw [decide_eq_false_iff_not, List.length_map]; omega
  refine Spec.body (C := cx [(8, false)] 158) fits (fn := Try.f8) Try.func8 rfl (by decide) (by decide) (gI ?_)
  repeat' (first | ((first | refine C_r ?_ | refine O_r ?_); (conv => whnf); first | (refine ⟨fun hb => ?_, fun hb => ?_⟩ <;> try exact no_way) | refine A_o ?_ | refine B_o ?_) | refine C_l (c0) ?_ | fail)
  clear c0 b1
  refine wLoop [0, 1, 2, 8, 9, 10] 1 (cuts.length + 1 + 1) ?_
  refine (fun key => key (cuts.length + 1) [] 0 0 rfl (cut0 _) :
    (∀ (c : Nat) (S : List Span) (i : Nat) (fr : Int), c + i = cuts.length + 1 → CutI cuts.length S i fr →
    WR2 _ _ _ _ _ (c + 1) [(0, lst u32row cuts), (1, int .u32 nr), (2, int .u32 arch), (8, .one (.arr 0 0 (S.map Span.row).length)), (9, int .u64 fr), (10, int .i64 i)] [.arr 0 false 5 (S.map Span.row)]) → _) ?_
  intro c
  induction c with
  | zero =>
    intro S i fr hi hS
    have hSl := hS.len
    have q : decide ((i : Int) ≤ ((cuts.map u32row).length : Int)) = false := by rw [decide_eq_false_iff_not, List.length_map]; omega
    have hfr : fr = 2 ^ 32 := hS.fr.2.2 (by omega)
    have hi2 : i = cuts.length + 1 := by omega
    subst hi2
    rw [hfr] at hS
    obtain ⟨sy, out, j, x, N, c1, c2, c3, c4, hj, hx, hlo, hN⟩ := cut_runs hS (by omega) hnr ha
    refine wR (gI ?_)
    repeat' (first | ((first | refine C_r ?_ | refine O_r ?_); (conv => whnf); first | (refine ⟨fun hb => ?_, fun hb => ?_⟩ <;> try exact no_way) | refine A_o ?_ | refine B_o ?_) | refine C_l (c1) ?_ | refine C_l (c2) ?_ | refine C_l (c3) ?_ | refine C_l (c4) ?_ | fail)
    clear c1 c2 c3 c4
    have hjS : j < S.length := (List.getElem?_eq_some_iff.1 hj).1
    have c6 := refActR 4 j
    rw [act_err j (by omega)] at c6
    unfold actV valV at c6
    have c7 := num25 0
    refine wLoop [1, 8, 13, 15, 17, 18, 19, 20, 21] 1 7 ?_
    refine (fun key => key 6 0 rfl :
      (∀ (c k : Nat), c + k = 6 →
      WR2 _ _ _ _ _ (c + 1) [(1, int .u32 nr), (8, .one (.arr 0 0 (S.map Span.row).length)), (13, int .i64 0), (15, int .i64 0), (17, bool true), (18, int .u32 (327680 + j)), (19, int .i64 N), (20, bool true), (21, int .i64 k)] [.arr 0 false 5 (S.map Span.row)]) → _) ?_
    intro c
    induction c with
    | zero =>
      intro k hk
      have e1 := shl_eq k (by omega)
      have q1 : decide (IntKind.i64.wrap (1 * 2 ^ min (IntKind.u64.wrap (k : Int)).toNat IntKind.i64.bits) < ((S.map Span.row).length : Int)) = false := by
        have : k = 6 := by omega
        subst this
        rw [e1, decide_eq_false_iff_not, List.length_map]; omega
      refine wR (gI ?_)
      repeat' (first | ((first | refine C_r ?_ | refine O_r ?_); (conv => whnf); first | (refine ⟨fun hb => ?_, fun hb => ?_⟩ <;> try exact no_way) | refine A_o ?_ | refine B_o ?_) | refine Q_l ?_ | fail)
      have hNk := hN k (by have : k = 6 := by omega
                           subst this; omega) (by omega)
      refine wLoop [1, 8, 13, 15, 17, 18, 19, 20, 21, 22] 1 (j + 1) ?_
      refine (fun key => key j 0 (by omega) :
        (∀ (c a : Nat), a + c = j →
        WR2 _ _ _ _ _ (c + 1) [(1, int .u32 nr), (8, .one (.arr 0 0 (S.map Span.row).length)), (13, int .i64 0), (15, int .i64 0), (17, bool true), (18, int .u32 (327680 + j)), (19, int .i64 N), (20, bool true), (21, int .i64 k), (22, int .i64 a)] [.arr 0 false 5 (S.map Span.row)]) → _) ?_
      intro c
      induction c with
      | zero =>
        intro a hac
        have : a = j := by omega
        subst this
        have r1 : decide ((a : Int) < ((S.map Span.row).length : Int)) = true := by rw [decide_eq_true_eq, List.length_map]; omega
        have hay : S[((a : Nat) : Int).toNat]? = some x := hj
        have g2 := at_of (f := Span.row) hay
        have r2 : decide (x.hi < nr) = false := by rw [decide_eq_false_iff_not]; omega
        have r3 : (327680 + (a : Int) == 327680 + (a : Int)) = true := by simp
        have r4 : decide (N ≤ IntKind.i64.wrap (6 + IntKind.i64.wrap (2 * (k : Int)))) = true := by
          rw [wrap_ok (n := 2 * (k : Int)) (by omega) (by omega), wrap_ok (by omega) (by omega), decide_eq_true_eq]; omega
        refine wR (gI ?_)
        repeat' (first | ((first | refine C_r ?_ | refine O_r ?_); (conv => whnf); first | (refine ⟨fun hb => ?_, fun hb => ?_⟩ <;> try exact no_way) | refine A_o ?_ | refine B_o ?_ | refine fR ?_) | refine C_l (c6) ?_ | refine C_l (c7) ?_ | refine Xa_l ?_ | fail)
        all_goals first | exact ⟨rfl, rfl⟩ | trace_state
      | succ c ih2 =>
        intro a hac
        obtain ⟨y, hy⟩ : ∃ y, S[a]? = some y := ⟨_, List.getElem?_eq_getElem (by omega)⟩
        have r1 : decide ((a : Int) < ((S.map Span.row).length : Int)) = true := by rw [decide_eq_true_eq, List.length_map]; omega
        have hay : S[((a : Nat) : Int).toNat]? = some y := hy
        have g2 := at_of (f := Span.row) hay
        have r2 : decide (y.hi < nr) = true := by rw [decide_eq_true_eq]; exact hlo a y hy (by omega)
        have g := ih2 (a + 1) (by omega)
        have e7 : IntKind.i64.wrap ((a : Int) + 1) = ((a + 1 : Nat) : Int) := by rw [wrap_ok (by omega) (by omega)]; omega
        clear ih2
        refine wR (gI ?_)
        repeat' (first | ((first | refine C_r ?_ | refine O_r ?_); (conv => whnf); first | (refine ⟨fun hb => ?_, fun hb => ?_⟩ <;> try exact no_way) | refine B_o ?_ | refine R_o ?_) | refine Xa_l ?_ | fail)
        all_goals first | (rw [e7]; exact rE g) | trace_state
    | succ c ih =>
      intro k hk
      have e1 := shl_eq k (by omega)
      refine wR (gI ?_)
      repeat' (first | ((first | refine C_r ?_ | refine O_r ?_); (conv => whnf); first | (refine ⟨fun hb => ?_, fun hb => ?_⟩ <;> try exact no_way) | refine A_o ?_ | refine B_o ?_ | refine R_o ?_) | refine Q_l ?_ | fail)
      · have g := ih (k + 1) (by omega)
        have e7 : IntKind.i64.wrap ((k : Int) + 1) = ((k + 1 : Nat) : Int) := by rw [wrap_ok (by omega) (by omega)]; omega
        rw [e7]; exact rE g
      · have hNk := hN k (by rw [e1, decide_eq_false_iff_not, List.length_map] at hb; have h2 : ((2 ^ k : Nat) : Int) = (2 : Int) ^ k := by simp
                             omega) (by omega)
        clear ih
        refine wLoop [1, 8, 13, 15, 17, 18, 19, 20, 21, 22] 1 (j + 1) ?_
        refine (fun key => key j 0 (by omega) :
          (∀ (c a : Nat), a + c = j →
          WR2 _ _ _ _ _ (c + 1) [(1, int .u32 nr), (8, .one (.arr 0 0 (S.map Span.row).length)), (13, int .i64 0), (15, int .i64 0), (17, bool true), (18, int .u32 (327680 + j)), (19, int .i64 N), (20, bool true), (21, int .i64 k), (22, int .i64 a)] [.arr 0 false 5 (S.map Span.row)]) → _) ?_
        intro c
        induction c with
        | zero =>
          intro a hac
          have : a = j := by omega
          subst this
          have r1 : decide ((a : Int) < ((S.map Span.row).length : Int)) = true := by rw [decide_eq_true_eq, List.length_map]; omega
          have hay : S[((a : Nat) : Int).toNat]? = some x := hj
          have g2 := at_of (f := Span.row) hay
          have r2 : decide (x.hi < nr) = false := by rw [decide_eq_false_iff_not]; omega
          have r3 : (327680 + (a : Int) == 327680 + (a : Int)) = true := by simp
          have r4 : decide (N ≤ IntKind.i64.wrap (6 + IntKind.i64.wrap (2 * (k : Int)))) = true := by
            rw [wrap_ok (n := 2 * (k : Int)) (by omega) (by omega), wrap_ok (by omega) (by omega), decide_eq_true_eq]; omega
          refine wR (gI ?_)
          repeat' (first | ((first | refine C_r ?_ | refine O_r ?_); (conv => whnf); first | (refine ⟨fun hb => ?_, fun hb => ?_⟩ <;> try exact no_way) | refine A_o ?_ | refine B_o ?_ | refine fR ?_) | refine C_l (c6) ?_ | refine C_l (c7) ?_ | refine Xa_l ?_ | fail)
          all_goals first | exact ⟨rfl, rfl⟩ | trace_state
        | succ c ih2 =>
          intro a hac
          obtain ⟨y, hy⟩ : ∃ y, S[a]? = some y := ⟨_, List.getElem?_eq_getElem (by omega)⟩
          have r1 : decide ((a : Int) < ((S.map Span.row).length : Int)) = true := by rw [decide_eq_true_eq, List.length_map]; omega
          have hay : S[((a : Nat) : Int).toNat]? = some y := hy
          have g2 := at_of (f := Span.row) hay
          have r2 : decide (y.hi < nr) = true := by rw [decide_eq_true_eq]; exact hlo a y hy (by omega)
          have g := ih2 (a + 1) (by omega)
          have e7 : IntKind.i64.wrap ((a : Int) + 1) = ((a + 1 : Nat) : Int) := by rw [wrap_ok (by omega) (by omega)]; omega
          clear ih2
          refine wR (gI ?_)
          repeat' (first | ((first | refine C_r ?_ | refine O_r ?_); (conv => whnf); first | (refine ⟨fun hb => ?_, fun hb => ?_⟩ <;> try exact no_way) | refine B_o ?_ | refine R_o ?_) | refine Xa_l ?_ | fail)
          all_goals first | (rw [e7]; exact rE g) | trace_state
  | succ c ih =>
    intro S i fr hi hS
    have hSl := hS.len
    have q : decide ((i : Int) ≤ ((cuts.map u32row).length : Int)) = true := by rw [decide_eq_true_eq, List.length_map]; omega
    have hfr := hS.fr
    have hfr2 := hfr.2.1 (by omega)
    have e1 : IntKind.u32.wrap fr = fr := wrap_u32 hfr.1 hfr2
    by_cases hin : i < cuts.length
    · have q2 : decide ((i : Int) < ((cuts.map u32row).length : Int)) = true := by rw [decide_eq_true_eq, List.length_map]; omega
      obtain ⟨cc, hcc⟩ : ∃ x, cuts[((i : Nat) : Int).toNat]? = some x := ⟨_, List.getElem?_eq_getElem (by omega)⟩
      have hcb := hc cc (List.mem_of_getElem? hcc)
      have g2 := at_of (f := u32row) hcc
      have e2 := wrap64 hcb
      have e3 : IntKind.u32.wrap cc = cc := wrap_u32 hcb.1 hcb.2
      refine wR (gI ?_)
      repeat' (first | ((first | refine C_r ?_ | refine O_r ?_); (conv => whnf); first | (refine ⟨fun hb => ?_, fun hb => ?_⟩ <;> try exact no_way) | refine B_o ?_ | refine R_o ?_ | refine fR ?_) | refine X_l ?_ | refine A_l ?_ | fail)
      · exact ⟨rfl, rfl⟩
      · exact ⟨rfl, rfl⟩
      · rw [e2] at *
        rw [decide_eq_false_iff_not] at *
        have hb2 : cc ≠ 4294967295 := by simpa using hb
        have g := ih _ _ _ (by omega) (cut_next hS (by omega) (by omega) (c := cc) (by omega) hcb.2 (fun h => by omega) fun h => by omega)
        rw [← cut_row] at g
        have e7 : IntKind.i64.wrap ((i : Int) + 1) = ((i + 1 : Nat) : Int) := by rw [wrap_ok (by omega) (by omega)]; omega
        have e8 : IntKind.u64.wrap (cc + 1) = cc + 1 := wrapV (by omega) (by omega)
        rw [e1, e3, e7, e8]
        exact rE g
    · have q2 : decide ((i : Int) < ((cuts.map u32row).length : Int)) = false := by rw [decide_eq_false_iff_not, List.length_map]; omega
      have hie : i = cuts.length := by omega
      subst hie
      have g := ih _ _ _ (by omega) (cut_next hS (by omega) (Nat.le_refl _) (c := 4294967295) (by omega) (by decide) (fun h => by omega) fun _ => by decide)
      rw [← cut_row] at g
      have e7 : IntKind.i64.wrap ((cuts.length : Int) + 1) = ((cuts.length + 1 : Nat) : Int) := by rw [wrap_ok (by omega) (by omega)]; omega
      refine wR (gI ?_)
      repeat' (first | ((first | refine C_r ?_ | refine O_r ?_); (conv => whnf); first | (refine ⟨fun hb => ?_, fun hb => ?_⟩ <;> try exact no_way) | refine B_o ?_ | refine R_o ?_) | refine A_l ?_ | fail)
      all_goals first | (rw [e1, e7]; exact rE g) | trace_state
theorem cuts_typed {xs : List D} (h : Typed Try.prog 52 xs) : ∃ l : List Int, xs = [.list (l.map u32row)] ∧ ∀ c ∈ l, 0 ≤ c ∧ c < 2 ^ 32 := by
  obtain ⟨rows, rfl, hr, hs⟩ := h.slice_inv Try.underlying52
  obtain ⟨l, rfl, hl⟩ := list_typed (f := u32row) (p := fun n => 0 ≤ n ∧ n < 2 ^ 32) (fun row _ h => by
    obtain ⟨n, rfl, h1⟩ := u32_typed h
    exact ⟨n, rfl, h1⟩) hr
  exact ⟨l, rfl, hl⟩
theorem emitSteps_typed {x0 x1 x2 : List D} (y0 : Typed Try.prog 52 x0) (y1 : Typed Try.prog 23 x1) (y2 : Typed Try.prog 23 x2) :
    Comp Try.prog 8 [argV (aggTy Try.prog 52) x0, argV (aggTy Try.prog 23) x1, argV (aggTy Try.prog 23) x2] (Am.bool true) := by
  have a0 : aggTy Try.prog 52 = false := by unfold aggTy; rw [Try.underlying52]
  have a1 : aggTy Try.prog 23 = false := by unfold aggTy; rw [Try.underlying23]
  rw [a0, a1]
  obtain ⟨cuts, rfl, hc⟩ := cuts_typed y0
  obtain ⟨nr, rfl, h1⟩ := u32_typed y1
  obtain ⟨arch, rfl, h2⟩ := u32_typed y2
  by_cases h : 60 < cuts.length
  · exact cutsNo cuts nr arch h
  · exact emitSteps cuts nr arch h hc h1 h2
end Go.Proofs.Ytcplpllbinilmaa
