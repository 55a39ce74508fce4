/- The document's checker: one instruction. -/
import Derived.Test.YtcplpllbinilmaaLab18
set_option linter.unusedVariables false
set_option linter.unusedSimpArgs false
namespace Go.Proofs.Ytcplpllbinilmaa
open Go Go.Am Go.Proofs
attribute [local irreducible] W WL DL WO RoundEnd
set_option maxRecDepth 10000
set_option maxHeartbeats 4000000
set_option linter.unusedVariables false
set_option linter.unusedSimpArgs false
/-- an instruction that may be, if it looks at no cells -/
structure OkI (len i : Nat) (x : Ins) : Prop where
  jt : 0 ≤ x.jt ∧ x.jt ≤ 255
  jf : 0 ≤ x.jf ∧ x.jf ≤ 255
  code : codeOk x.code = true
  ja : x.code = 5 → x.k < (len : Int) - 1 - i
  jump : isJumpF x.code = true → x.jt < (len : Int) - 1 - i ∧ x.jf < (len : Int) - 1 - i
  left : endsF x.code = false → i + 1 < len
  abs : x.code = 32 → x.k % 4 = 0 ∧ x.k ≤ 60
  div : x.code = 52 → x.k ≠ 0
  sh : x.code = 100 ∨ x.code = 116 → x.k < 32
  cell : x.code ≠ 2 ∧ x.code ≠ 3 ∧ x.code ≠ 96 ∧ x.code ≠ 97
  k : 0 ≤ x.k ∧ x.k < 2 ^ 32
theorem refusedNo (l : List Ins) (i : Nat) (x : Ins) (hl : l.length < 2 ^ 40) (hx : l[i]? = some x) (h : OkI l.length i x) : Comp Try.prog 34 [lst Ins.row l, int .i64 i] (bool false) := by
  have hi := (List.getElem?_eq_some_iff.1 hx).1
  obtain ⟨⟨t1, t2⟩, ⟨f1, f2⟩, hcode, hja, hjump, hleft, habs, hdiv, hsh, hcell, hk⟩ := h
  obtain ⟨c, jt, jf, k⟩ := x
  simp only at *
  have hx0 : l[((i : Int)).toNat]? = some ⟨c, jt, jf, k⟩ := hx
  have cn := codeNameR c
  have cj := isJumpR c
  have hn := name_ok c
  rw [hcode] at hn
  have q1 : decide (jt < 0) = false := by rw [decide_eq_false_iff_not]; omega
  have q2 : decide (jt > 255) = false := by rw [decide_eq_false_iff_not]; omega
  have q3 : decide (jf < 0) = false := by rw [decide_eq_false_iff_not]; omega
  have q4 : decide (jf > 255) = false := by rw [decide_eq_false_iff_not]; omega
  have el : IntKind.i64.wrap (IntKind.i64.wrap (((l.map Ins.row).length : Int) - 1) - (i : Int)) = (l.length : Int) - 1 - i := by
    rw [List.length_map, wrap_okz (n := (l.length : Int) - 1) (by omega) (by omega), wrap_okz (by omega) (by omega)]
  have hn : (nameF c == (⟨#[]⟩ : ByteArray)) = false := hn
  have z1 : endsF c = false → (IntKind.i64.wrap (IntKind.i64.wrap (((l.map Ins.row).length : Int) - 1) - (i : Int)) == 0) = false := by
    intro h
    have := hleft h
    rw [el, beq_eq_false_iff_ne]; omega
  by_cases d6 : c = 6
  · subst d6
    rw [show isJumpF 6 = false from by decide] at cj
    refine Spec.body (C := cx [] 145) fits (fn := Try.f34) Try.func34 rfl (by decide) (by decide) (gI ?_)
    repeat' (first | ((first | refine C_r ?_ | refine O_r ?_); (conv => whnf); first | (refine ⟨fun hb => ?_, fun hb => ?_⟩ <;> try exact no_way) | refine B_o ?_ | refine fR ?_) | refine C_l (cn) ?_ | refine C_l (cj) ?_ | refine X_l ?_ | fail)
    all_goals exact ⟨rfl, rfl⟩
  by_cases d22 : c = 22
  · subst d22
    rw [show isJumpF 22 = false from by decide] at cj
    refine Spec.body (C := cx [] 145) fits (fn := Try.f34) Try.func34 rfl (by decide) (by decide) (gI ?_)
    repeat' (first | ((first | refine C_r ?_ | refine O_r ?_); (conv => whnf); first | (refine ⟨fun hb => ?_, fun hb => ?_⟩ <;> try exact no_way) | refine B_o ?_ | refine fR ?_) | refine C_l (cn) ?_ | refine C_l (cj) ?_ | refine X_l ?_ | fail)
    all_goals exact ⟨rfl, rfl⟩
  have n6 : (c == 6) = false := by rw [beq_eq_false_iff_ne]; exact d6
  have n22 : (c == 22) = false := by rw [beq_eq_false_iff_ne]; exact d22
  have z2 := z1 (by unfold endsF; rw [n6, n22]; rfl)
  have n2 : (c == 2) = false := by rw [beq_eq_false_iff_ne]; exact hcell.1
  have n3 : (c == 3) = false := by rw [beq_eq_false_iff_ne]; exact hcell.2.1
  have n96 : (c == 96) = false := by rw [beq_eq_false_iff_ne]; exact hcell.2.2.1
  have n97 : (c == 97) = false := by rw [beq_eq_false_iff_ne]; exact hcell.2.2.2
  by_cases d32 : c = 32
  · have hab := habs d32
    have a1 : (!(k.tmod 4 == 0)) = false := by rw [Int.tmod_eq_emod_of_nonneg hk.1, hab.1]; rfl
    have a2 : decide (k > 60) = false := by rw [decide_eq_false_iff_not]; omega
    subst d32
    rw [show isJumpF 32 = false from by decide] at cj
    clear habs hdiv hsh hja hjump hleft z1 hcode
    refine Spec.body (C := cx [] 145) fits (fn := Try.f34) Try.func34 rfl (by decide) (by decide) (gI ?_)
    repeat' (first | ((first | refine C_r ?_ | refine O_r ?_); (conv => whnf); first | (refine ⟨fun hb => ?_, fun hb => ?_⟩ <;> try exact no_way) | refine B_o ?_ | refine fR ?_) | refine C_l (cn) ?_ | refine X_l ?_ | fail)
    all_goals first | exact ⟨rfl, rfl⟩ | trace_state
  by_cases d52 : c = 52
  · have hab := hdiv d52
    have a1 : (k == 0) = false := by rw [beq_eq_false_iff_ne]; exact hab
    subst d52
    rw [show isJumpF 52 = false from by decide] at cj
    clear habs hdiv hsh hja hjump hleft z1 hcode
    refine Spec.body (C := cx [] 145) fits (fn := Try.f34) Try.func34 rfl (by decide) (by decide) (gI ?_)
    repeat' (first | ((first | refine C_r ?_ | refine O_r ?_); (conv => whnf); first | (refine ⟨fun hb => ?_, fun hb => ?_⟩ <;> try exact no_way) | refine B_o ?_ | refine fR ?_) | refine C_l (cn) ?_ | refine X_l ?_ | fail)
    all_goals first | exact ⟨rfl, rfl⟩ | exact ⟨by rw [z2], rfl⟩ | trace_state
  by_cases d5 : c = 5
  · have hab := hja d5
    have e5 : IntKind.u64.wrap (IntKind.i64.wrap (IntKind.i64.wrap (((l.map Ins.row).length : Int) - 1) - (i : Int))) = (l.length : Int) - 1 - i := by rw [el, wrap_u64 (by omega) (by omega)]
    have a1 : decide (IntKind.u64.wrap k ≥ IntKind.u64.wrap (IntKind.i64.wrap (IntKind.i64.wrap (((l.map Ins.row).length : Int) - 1) - (i : Int)))) = false := by
      rw [e5, wrap_u64 (by omega) (by omega), decide_eq_false_iff_not]; omega
    subst d5
    rw [show isJumpF 5 = false from by decide] at cj
    clear habs hdiv hsh hja hjump hleft z1 hcode
    refine Spec.body (C := cx [] 145) fits (fn := Try.f34) Try.func34 rfl (by decide) (by decide) (gI ?_)
    repeat' (first | ((first | refine C_r ?_ | refine O_r ?_); (conv => whnf); first | (refine ⟨fun hb => ?_, fun hb => ?_⟩ <;> try exact no_way) | refine B_o ?_ | refine fR ?_) | refine C_l (cn) ?_ | refine X_l ?_ | fail)
    all_goals first | exact ⟨rfl, rfl⟩ | exact ⟨by rw [a1]; rfl, rfl⟩ | trace_state
  have n32 : (c == 32) = false := by rw [beq_eq_false_iff_ne]; exact d32
  have n52 : (c == 52) = false := by rw [beq_eq_false_iff_ne]; exact d52
  have n5 : (c == 5) = false := by rw [beq_eq_false_iff_ne]; exact d5
  by_cases dsh : c = 100 ∨ c = 116
  · have hab := hsh dsh
    have a1 : decide (k ≥ 32) = false := by rw [decide_eq_false_iff_not]; omega
    clear habs hdiv hsh hja hjump hleft z1 hcode
    rcases dsh with rfl | rfl
    · rw [show isJumpF 100 = false from by decide] at cj
      refine Spec.body (C := cx [] 145) fits (fn := Try.f34) Try.func34 rfl (by decide) (by decide) (gI ?_)
      repeat' (first | ((first | refine C_r ?_ | refine O_r ?_); (conv => whnf); first | (refine ⟨fun hb => ?_, fun hb => ?_⟩ <;> try exact no_way) | refine B_o ?_ | refine fR ?_) | refine C_l (cn) ?_ | refine X_l ?_ | fail)
      all_goals first | exact ⟨rfl, rfl⟩ | exact ⟨by rw [z2], rfl⟩ | trace_state
    · rw [show isJumpF 116 = false from by decide] at cj
      refine Spec.body (C := cx [] 145) fits (fn := Try.f34) Try.func34 rfl (by decide) (by decide) (gI ?_)
      repeat' (first | ((first | refine C_r ?_ | refine O_r ?_); (conv => whnf); first | (refine ⟨fun hb => ?_, fun hb => ?_⟩ <;> try exact no_way) | refine B_o ?_ | refine fR ?_) | refine C_l (cn) ?_ | refine X_l ?_ | fail)
      all_goals first | exact ⟨rfl, rfl⟩ | exact ⟨by rw [z2], rfl⟩ | trace_state
  have n100 : (c == 100) = false := by rw [beq_eq_false_iff_ne]; exact fun h => dsh (.inl h)
  have n116 : (c == 116) = false := by rw [beq_eq_false_iff_ne]; exact fun h => dsh (.inr h)
  clear habs hdiv hsh hja hleft z1 hcode dsh
  cases hj : isJumpF c with
  | true =>
    have hab := hjump hj
    rw [hj] at cj
    have a1 : decide (jt ≥ IntKind.i64.wrap (IntKind.i64.wrap (((l.map Ins.row).length : Int) - 1) - (i : Int))) = false := by rw [el, decide_eq_false_iff_not]; omega
    have a2 : decide (jf ≥ IntKind.i64.wrap (IntKind.i64.wrap (((l.map Ins.row).length : Int) - 1) - (i : Int))) = false := by rw [el, decide_eq_false_iff_not]; omega
    clear hjump
    refine Spec.body (C := cx [] 145) fits (fn := Try.f34) Try.func34 rfl (by decide) (by decide) (gI ?_)
    repeat' (first | ((first | refine C_r ?_ | refine O_r ?_); (conv => whnf); first | (refine ⟨fun hb => ?_, fun hb => ?_⟩ <;> try exact no_way) | refine B_o ?_ | refine fR ?_) | refine C_l (cn) ?_ | refine C_l (cj) ?_ | refine X_l ?_ | fail)
    all_goals first | exact ⟨rfl, rfl⟩ | exact ⟨by rw [a2]; rfl, rfl⟩ | trace_state
  | false =>
    rw [hj] at cj
    clear hjump
    refine Spec.body (C := cx [] 145) fits (fn := Try.f34) Try.func34 rfl (by decide) (by decide) (gI ?_)
    repeat' (first | ((first | refine C_r ?_ | refine O_r ?_); (conv => whnf); first | (refine ⟨fun hb => ?_, fun hb => ?_⟩ <;> try exact no_way) | refine B_o ?_ | refine fR ?_) | refine C_l (cn) ?_ | refine C_l (cj) ?_ | refine X_l ?_ | fail)
    all_goals first | exact ⟨rfl, rfl⟩ | exact ⟨by rw [z2], rfl⟩ | trace_state
end Go.Proofs.Ytcplpllbinilmaa
