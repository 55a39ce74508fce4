/- Spans that are typed; the code of few spans, and how it runs. -/
import Derived.Test.YtcplpllbinilmaaEm6
import Derived.Test.YtcplpllbinilmaaRspA
import Derived.Test.YtcplpllbinilmaaWrA
import Derived.Test.YtcplpllbinilmaaTyd
set_option linter.unusedVariables false
set_option linter.unusedSimpArgs false
namespace Go.Proofs.Ytcplpllbinilmaa
open Go Go.Am Go.Proofs
attribute [local irreducible] W WL DL WO RoundEnd
set_option maxRecDepth 100000
set_option maxHeartbeats 4000000
set_option linter.unusedVariables false
set_option linter.unusedSimpArgs false
theorem num25 (e : Int) : Comp Try.prog 20 [int .i64 e] (int .i64 e) := by
  refine Spec.body (C := cx [] 4) fits (fn := Try.f20) Try.func20 rfl (by decide) (by decide) (gI ?_)
  repeat' (first | ((first | refine C_r ?_ | refine C0_r ?_ | refine O_r ?_ | refine R_r ?_); (conv => whnf); first | (refine ⟨fun hb => ?_, fun hb => ?_⟩ <;> try exact no_way) | refine A_o ?_ | refine B_o ?_ | refine C_o ?_ | refine R_o ?_ | refine fR ?_ | refine fRk ?_ | refine F_o ?_) | refine SA_l ?_ | refine V_l ?_ | refine L_l ?_ | refine Q_l ?_ | refine X_l ?_ | refine Xa_l ?_ | refine Xs_l ?_ | refine K_l ?_ | refine Ka_l ?_ | refine Lk_l ?_ | refine Up_l ?_ | refine Del_l ?_ | refine St_l ?_ | refine LU_l ?_ | refine Xw_l ?_ | refine Le_l ?_ | refine Se_l ?_ | refine M_l ?_ | refine A_l ?_ | refine A0_l ?_ | refine A1_l ?_ | refine Mk_l ?_ | refine Kz_l ?_ | refine W_l ?_ | fail)
  exact ⟨rfl, rfl⟩
theorem act_typed {xs : List D} (h : Typed Try.prog 54 xs) : ∃ x : Act, xs = x.row := by
  obtain ⟨xss, rfl, hn, hf⟩ := h.struct_inv Try.underlying54
  rcases xss with _ | ⟨a, _ | ⟨b, _ | ⟨c, r⟩⟩⟩
  all_goals try (simp at hn; done)
  obtain ⟨n0, rfl, _⟩ := (hf 0 _ a rfl rfl).int_inv Try.underlying3
  obtain ⟨n1, rfl, _⟩ := (hf 1 _ b rfl rfl).int_inv Try.underlying3
  exact ⟨⟨n0, n1⟩, rfl⟩
theorem half_typed {xs : List D} (h : Typed Try.prog 110 xs) : ∃ x : Half, xs = x.row ∧ x.rng := by
  obtain ⟨xss, rfl, hn, hf⟩ := h.struct_inv Try.underlying110
  rcases xss with _ | ⟨a, _ | ⟨b, _ | ⟨c, _ | ⟨d, _ | ⟨e, _ | ⟨g, r⟩⟩⟩⟩⟩⟩
  all_goals try (simp at hn; done)
  obtain ⟨n0, rfl, _⟩ := (hf 0 _ a rfl rfl).int_inv Try.underlying3
  obtain ⟨n1, rfl, _⟩ := (hf 1 _ b rfl rfl).int_inv Try.underlying3
  obtain ⟨n2, rfl⟩ := (hf 2 _ c rfl rfl).bool_inv Try.underlying4
  obtain ⟨n3, rfl, h3⟩ := u32_typed (hf 3 _ d rfl rfl)
  obtain ⟨n4, rfl, h4⟩ := u32_typed (hf 4 _ e rfl rfl)
  exact ⟨⟨n0, n1, n2, n3, n4⟩, rfl, h3, h4⟩
theorem clause_typed {xs : List D} (h : Typed Try.prog 96 xs) : ∃ l : List Half, xs = crow l ∧ l.length < 2 ^ 60 ∧ ∀ x ∈ l, x.rng := by
  obtain ⟨rows, rfl, hr, hs⟩ := h.slice_inv Try.underlying96
  obtain ⟨l, rfl, hl⟩ := list_typed (fun _ _ h => half_typed h) hr
  have hb : Try.prog.bytesOf 110 = 32 := by kernel_rfl
  rw [hb, List.length_map] at hs
  exact ⟨l, rfl, by have : reachBytes = 140737488351232 := rfl; omega, hl⟩
def Stp.rng (s : Stp) : Prop := ∀ c ∈ s.clauses, ∀ h ∈ c, h.rng
theorem step_typed {xs : List D} (h : Typed Try.prog 86 xs) : ∃ x : Stp, xs = x.row ∧ x.small ∧ x.rng := by
  obtain ⟨xss, rfl, hn, hf⟩ := h.struct_inv Try.underlying86
  rcases xss with _ | ⟨a, _ | ⟨b, _ | ⟨c, r⟩⟩⟩
  all_goals try (simp at hn; done)
  obtain ⟨rows, rfl, hr, hs⟩ := (hf 0 _ a rfl rfl).slice_inv Try.underlying84
  obtain ⟨l, rfl, hl⟩ := list_typed (fun _ _ h => clause_typed h) hr
  obtain ⟨a1, rfl⟩ := act_typed (hf 1 _ b rfl rfl)
  have hb : Try.prog.bytesOf 96 = 24 := by kernel_rfl
  rw [hb, List.length_map] at hs
  exact ⟨⟨l, a1⟩, rfl, ⟨by simp only; have : reachBytes = 140737488351232 := rfl; omega, fun c hc => (hl c hc).1⟩, fun c hc => (hl c hc).2⟩
theorem span_typed {xs : List D} (h : Typed Try.prog 57 xs) : ∃ x : Span, xs = x.row ∧ x.small ∧ x.rng := by
  obtain ⟨xss, rfl, hn, hf⟩ := h.struct_inv Try.underlying57
  rcases xss with _ | ⟨a, _ | ⟨b, _ | ⟨c, _ | ⟨d, _ | ⟨e, r⟩⟩⟩⟩⟩
  all_goals try (simp at hn; done)
  obtain ⟨n0, rfl, h0⟩ := u32_typed (hf 0 _ a rfl rfl)
  obtain ⟨n1, rfl, h1⟩ := u32_typed (hf 1 _ b rfl rfl)
  obtain ⟨rows, rfl, hr, hs⟩ := (hf 2 _ c rfl rfl).slice_inv Try.underlying55
  obtain ⟨l, rfl, hl⟩ := list_typed (fun _ _ h => step_typed h) hr
  obtain ⟨a1, rfl⟩ := act_typed (hf 3 _ d rfl rfl)
  have hb : Try.prog.bytesOf 86 = 40 := by kernel_rfl
  rw [hb, List.length_map] at hs
  exact ⟨⟨n0, n1, l, a1⟩, rfl, ⟨⟨by simp only; have : reachBytes = 140737488351232 := rfl; omega, fun s hs => (hl s hs).1⟩, h0, h1⟩, fun s hs => (hl s hs).2⟩
theorem spans_typed {xs : List D} (h : Typed Try.prog 45 xs) : ∃ l : List Span, xs = [.list (l.map Span.row)] ∧ l.length < 2 ^ 60 ∧ ∀ x ∈ l, x.small ∧ x.rng := by
  obtain ⟨rows, rfl, hr, hs⟩ := h.slice_inv Try.underlying45
  obtain ⟨l, rfl, hl⟩ := list_typed (fun _ _ h => span_typed h) hr
  have hb : Try.prog.bytesOf 57 = 48 := by kernel_rfl
  rw [hb, List.length_map] at hs
  exact ⟨l, rfl, by have : reachBytes = 140737488351232 := rfl; omega, hl⟩
theorem kill_val : actK ⟨1, 0⟩ = 2147483648 := rfl
/-- the code of few spans: what it is, and how it runs -/
theorem emit_runs (arch : Int) (ha : 0 ≤ arch ∧ arch < 2 ^ 32) (l : List Span) (hl : l.length < 2 ^ 60) (hs : ∀ x ∈ l, x.small ∧ x.rng) (hf : fewB l = true) (h : spansOk 0 l = true) :
    ∃ out : List Sym, out = asm 0 (codeI actK arch 2147483648 l) ∧ Comp Try.prog 18 [int .u32 arch, lst Span.row l] (.tup [.one (.d (.list (out.map Sym.row))), .one (.d (.sc (.int .i64 0)))]) ∧
      rightF out = true ∧ out.length ≤ 3 * partsC l + 5 ∧ partsC l ≤ 7800 ∧ (∀ x ∈ out, 0 ≤ x.k ∧ x.k < 2 ^ 32) ∧
      ∀ d : Dat, d.ok → Comp Try.prog 14 [lst Sym.row out, .agg (d.row.map .d)] (runV (val d false (codeI actK arch 2147483648 l) Mach.zero)) := by
  obtain ⟨_, f1, f2⟩ := few_eq hf
  have hne := ok_ne h
  have hft := ok_fit h fun x hx => (hs x hx).2
  have ho := ok_code actK arch 2147483648 l hne hft
  have hI : codeI actK arch 2147483648 l ≠ [] := by unfold codeI; simp
  have hr := asm_right ho hI
  have hlen := Nat.le_trans (asm_len (codeI actK arch 2147483648 l) 0) (code_len actK arch 2147483648 l)
  have hk := asm_k _ 0 (code_k arch 2147483648 ha ⟨by decide, by decide⟩ l fun x hx => ⟨hft x hx, (hs x hx).1.2.1⟩)
  have c1 := codeYes arch l hl (fun x hx => (hs x hx).1) h hne hft (by omega) (by omega)
  rw [kill_val] at c1
  refine ⟨_, rfl, c1, hr, hlen, f1, hk, fun d hd => ?_⟩
  have := runSymsR _ d (by omega) hd hr hk
  rw [asm_val ho hI] at this
  exact this
def aliveX : Span := ⟨0, 4294967295, [], ⟨7, 0⟩⟩
def aliveD : Dat := ⟨0, 5, 0, 0, 0, 0, 0, 0, 0⟩
theorem aliveD_ok : aliveD.ok := by unfold aliveD; exact ⟨by decide, by decide, by decide, by decide, by decide, by decide, by decide, by decide, by decide⟩
theorem alive25 : Comp Try.prog 16 [] (Am.bool true) := by
  have c1 := codeNo 5 [] (by decide) (fun x hx => by cases hx) rfl
  obtain ⟨out, _, c2, _, _, _, _, hrun⟩ := emit_runs 5 (by decide) [aliveX] (by decide) (fun x hx => by
    rw [List.mem_singleton.1 hx]
    exact ⟨⟨⟨by decide, fun s hs => by cases hs⟩, by decide, by decide⟩, fun s hs => by cases hs⟩) (by decide) (by decide)
  have c3 := hrun aliveD aliveD_ok
  rw [code_val aliveD (word_nr aliveD (by decide)) (word_arch aliveD (by decide)) actK 5 2147483648 [aliveX] (fun x hx => by
    rw [List.mem_singleton.1 hx]
    exact fun s hs => by cases hs) ⟨fun x hx => by
    rw [List.mem_singleton.1 hx]
    decide, List.pairwise_singleton _ _⟩ aliveX (by simp) (by decide) (by decide)] at c3
  have c3 : Comp Try.prog 14 [lst Sym.row out, .agg (aliveD.row.map .d)] (runV (2147418112, true)) := c3
  have c4 := num25 0
  have c5 := num25 1
  unfold runV at c3
  clear hrun
  refine Spec.body (C := cx [] 39) fits (fn := Try.f16) Try.func16 rfl (by decide) (by decide) (gI ?_)
  repeat' (first | ((first | refine C_r ?_ | refine C0_r ?_ | refine O_r ?_ | refine R_r ?_); (conv => whnf); first | (refine ⟨fun hb => ?_, fun hb => ?_⟩ <;> try exact no_way) | refine A_o ?_ | refine B_o ?_ | refine C_o ?_ | refine R_o ?_ | refine fR ?_ | refine fRk ?_ | refine F_o ?_) | refine C_l (c1) ?_ | refine C_l (c2) ?_ | refine C_l (c3) ?_ | refine C_l (c4) ?_ | refine C_l (c5) ?_ | refine SA_l ?_ | refine V_l ?_ | refine L_l ?_ | refine Q_l ?_ | refine X_l ?_ | refine Xa_l ?_ | refine Xs_l ?_ | refine K_l ?_ | refine Ka_l ?_ | refine Lk_l ?_ | refine Up_l ?_ | refine Del_l ?_ | refine St_l ?_ | refine LU_l ?_ | refine Xw_l ?_ | refine Le_l ?_ | refine Se_l ?_ | refine M_l ?_ | refine A_l ?_ | refine A0_l ?_ | refine A1_l ?_ | refine Mk_l ?_ | refine Kz_l ?_ | refine W_l ?_ | refine C_d (c1) ?_ | refine C_d (c2) ?_ | refine C_d (c3) ?_ | refine C_d (c4) ?_ | refine C_d (c5) ?_ | refine SA_d ?_ | refine V_d ?_ | refine L_d ?_ | refine Q_d ?_ | refine X_d ?_ | refine Xs_d ?_ | refine K_d ?_ | refine Ka_d ?_ | refine Lk_d ?_ | refine Up_d ?_ | refine A_d ?_ | refine A0_d ?_ | refine St_d ?_ | refine LU_d ?_ | refine Xw_d ?_ | refine Le_d ?_ | refine Se_d ?_ | refine M_d ?_ | refine Mk_d ?_ | refine N_d ?_ | refine Kz_d ?_ | refine W_d ?_ | fail)
  all_goals first | exact ⟨rfl, rfl⟩ | trace_state
end Go.Proofs.Ytcplpllbinilmaa
