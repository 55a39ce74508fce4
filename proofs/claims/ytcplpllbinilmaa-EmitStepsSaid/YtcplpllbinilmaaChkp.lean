/- What is linked may be, as the checker sees it, where no cells are looked at. -/
import Derived.Test.YtcplpllbinilmaaChk3
import Derived.Test.YtcplpllbinilmaaLabr0
set_option linter.unusedVariables false
set_option linter.unusedSimpArgs false
namespace Go.Proofs.Ytcplpllbinilmaa
open Go Go.Am Go.Proofs
set_option maxRecDepth 10000
set_option maxHeartbeats 4000000
set_option linter.unusedVariables false
set_option linter.unusedSimpArgs false
def symB (x : Sym) : Bool :=
  bif x.code == 2 || (x.code == 3 || (x.code == 96 || x.code == 97)) then false
  else bif x.code == 32 then !(!(x.k.tmod 4 == 0)) && !decide (x.k > 60)
  else bif x.code == 52 then !(x.k == 0)
  else bif x.code == 100 || x.code == 116 then !decide (x.k ≥ 32) else true
structure SymOk (x : Sym) : Prop where
  abs : x.code = 32 → x.k % 4 = 0 ∧ x.k ≤ 60
  div : x.code = 52 → x.k ≠ 0
  sh : x.code = 100 ∨ x.code = 116 → x.k < 32
  cell : x.code ≠ 2 ∧ x.code ≠ 3 ∧ x.code ≠ 96 ∧ x.code ≠ 97
  k : 0 ≤ x.k ∧ x.k < 2 ^ 32
theorem symB_ok {x : Sym} (h : symB x = true) (hk : 0 ≤ x.k ∧ x.k < 2 ^ 32) : SymOk x := by
  unfold symB at h
  cases h1 : (x.code == 2 || (x.code == 3 || (x.code == 96 || x.code == 97))) with
  | true => rw [h1] at h; cases h
  | false =>
    rw [h1] at h
    simp only [cond_false] at h
    simp only [Bool.or_eq_false_iff, beq_eq_false_iff_ne] at h1
    refine ⟨fun hc => ?_, fun hc => ?_, fun hc => ?_, h1, hk⟩
    · rw [hc] at h
      simp only [beq_self_eq_true, cond_true, Bool.and_eq_true, Bool.not_not, beq_iff_eq, Bool.not_eq_true', decide_eq_false_iff_not] at h
      rw [Int.tmod_eq_emod_of_nonneg hk.1] at h
      exact ⟨h.1, by omega⟩
    · rw [hc] at h
      rw [show ((52 : Int) == 32) = false from rfl] at h
      simp only [beq_self_eq_true, cond_true, cond_false, Bool.not_eq_true', beq_eq_false_iff_ne] at h
      exact h
    · rcases hc with hc | hc <;> rw [hc] at h
      · rw [show ((100 : Int) == 32) = false from rfl, show ((100 : Int) == 52) = false from rfl] at h
        simp only [beq_self_eq_true, Bool.true_or, cond_true, cond_false, Bool.not_eq_true', decide_eq_false_iff_not] at h
        omega
      · rw [show ((116 : Int) == 32) = false from rfl, show ((116 : Int) == 52) = false from rfl] at h
        simp only [beq_self_eq_true, Bool.or_true, cond_true, cond_false, Bool.not_eq_true', decide_eq_false_iff_not] at h
        omega
/-- each instruction belongs to a symbol -/
theorem out_of {l : List Sym} {m : LM} {fa : List (Bool × Bool)} (h : FinP l m fa) : ∀ (n : Nat), n ≤ l.length → ∀ i : Nat, (i : Int) < sumC (fa.take n) → ∃ (s o : Nat) (x : Sym), l[s]? = some x ∧ o < (insF m (layF 0 fa) fa s x).length ∧ i = posN fa s + o
  | 0, _, i, hi => by
    have : sumC (fa.take 0) = 0 := rfl
    omega
  | n + 1, hn, i, hi => by
    have hle := h.len
    by_cases hlt : (i : Int) < sumC (fa.take n)
    · exact out_of h n (by omega) i hlt
    · have hx : l[n]? = some l[n] := List.getElem?_eq_getElem (by omega)
      have hp : fa[n]? = some fa[n] := List.getElem?_eq_getElem (by omega)
      have hg : getB fa n = fa[n] := by unfold getB; rw [hp]; rfl
      have hlen := ins_len m (layF 0 fa) h.still hx
      rw [List.take_add_one, hp] at hi
      simp only [Option.toList_some] at hi
      rw [sumC_snoc, ← hg] at hi
      have b3 := (sumC_take fa n).1
      refine ⟨n, i - posN fa n, l[n], hx, ?_, ?_⟩
      · unfold posN; omega
      · unfold posN; omega
theorem ja_ok {L i : Nat} {k : Int} (h0 : 0 ≤ k) (h1 : k < (L : Int) - 1 - i) (h2 : (L : Int) < 2 ^ 31) : OkI L i ⟨5, 0, 0, IntKind.wrap .u32 k⟩ := by
  have hw : IntKind.wrap .u32 k = k := wrap_u32 h0 (by omega)
  rw [hw]
  exact ⟨⟨Int.le_refl 0, by simp only; decide⟩, ⟨Int.le_refl 0, by simp only; decide⟩, by show codeOk 5 = true; decide, fun _ => h1, fun h => by simp only at h; exact absurd h (by decide), fun _ => by omega, fun h => by simp only at h; omega, fun h => by simp only at h; omega, fun h => by simp only at h; omega, by simp only; decide, h0, by simp only; omega⟩
theorem code_ok {l : List Sym} (hr : rightF l = true) {i : Nat} {x : Sym} (hx : l[i]? = some x) : codeOk x.code = true := by
  have hb := right_at hr hx
  simp only [badF, Bool.or_eq_false_iff] at hb
  have := hb.1.1.1.2
  simpa using this
theorem link_ok {l : List Sym} {m : LM} {fa : List (Bool × Bool)} (h : FinP l m fa) (hL : sumC fa < 2 ^ 31) (hc : ∀ x ∈ l, SymOk x) : ∀ (i : Nat) (y : Ins), (outL l m fa)[i]? = some y → OkI (outL l m fa).length i y := by
  intro i y hy
  have hi := (List.getElem?_eq_some_iff.1 hy).1
  have hlen := outL_len h
  have hle := h.len
  have hall : fa.take l.length = fa := by rw [← hle, List.take_length]
  obtain ⟨s, o, x, hx, ho, rfl⟩ := out_of h l.length (Nat.le_refl _) i (by rw [hall]; omega)
  have hat := out_at m (layF 0 fa) h.still h.len hx ho
  rw [show (sumC (fa.take s)).toNat + o = posN fa s + o from rfl] at hat
  have hyy : (insF m (layF 0 fa) fa s x)[o]? = some y := by rw [← hat]; exact hy
  have hs := (List.getElem?_eq_some_iff.1 hx).1
  have hsx := hc x (List.mem_of_getElem? hx)
  have hgs := getI_pos (fa := fa) (n := s) (by omega)
  have b3 := (sumC_take fa s).1
  generalize hLL : (outL l m fa).length = L at *
  have hcok := code_ok h.right hx
  have hlast : ∀ j : Nat, j < l.length → sumC (fa.take j) < sumC fa := by
    intro j hj
    have := sumC_mono (fa := fa) (i := j) (j := l.length) hj (by omega)
    rw [hall] at this
    have := (cnt_ge (getB fa j)).1
    omega
  cases hj : isJumpF x.code with
  | true =>
    obtain ⟨g1, g2⟩ := next_lt h.right hx hj
    have ht := tgt_t h hx (.inl hj) g1
    have hf := tgt_f h hx hj g2
    have m1 := sumC_mono (fa := fa) (i := s) (j := (nextF l s x.t).toNat) (by omega) (by omega)
    have m2 := sumC_mono (fa := fa) (i := s) (j := (nextF l s x.f).toNat) (by omega) (by omega)
    have b1 := hlast (nextF l s x.t).toNat (by omega)
    have b2 := hlast (nextF l s x.f).toNat (by omega)
    have hfar := h.far s x hx hj
    unfold sprAt farF at hfar
    rw [ht, hf, hgs] at hfar
    have hins : insF m (layF 0 fa) fa s x = jumpF x (sumC (fa.take s)) (sumC (fa.take (nextF l s x.t).toNat)) (sumC (fa.take (nextF l s x.f).toNat)) (getB fa s).1 (getB fa s).2 := by
      unfold insF
      rw [hj, cond_true, hgs, ht, hf]
    rw [hins] at hyy
    have hpos : posN fa s = (sumC (fa.take s)).toNat := rfl
    rw [hpos]
    generalize sumC (fa.take s) = S at *
    generalize sumC (fa.take (nextF l s x.t).toNat) = T at *
    generalize sumC (fa.take (nextF l s x.f).toNat) = FF at *
    generalize getB fa s = p at *
    obtain ⟨a, b⟩ := p
    have c0 : cntF (a, b) = 1 + (bif a then 1 else 0) + (bif b then 1 else 0) := rfl
    rw [c0] at m1 m2
    simp only [Prod.mk.injEq] at hfar
    obtain ⟨fa1, fb1⟩ := hfar
    obtain ⟨e1, e2, e3, e4⟩ := jump_ends hj
    have head : ∀ jt jf : Int, (0 ≤ jt ∧ jt ≤ 255 ∧ jt < (L : Int) - 1 - S) → (0 ≤ jf ∧ jf ≤ 255 ∧ jf < (L : Int) - 1 - S) → OkI L (S.toNat + 0) ⟨x.code, jt, jf, x.k⟩ := by
      intro jt jf hjt hjf
      refine ⟨⟨hjt.1, hjt.2.1⟩, ⟨hjf.1, hjf.2.1⟩, hcok, fun hc => ?_, fun _ => ⟨?_, ?_⟩, fun _ => ?_, hsx.abs, hsx.div, hsx.sh, hsx.cell, hsx.k⟩
      · simp only at hc; rw [hc] at e4; cases e4
      · simp only; omega
      · simp only; omega
      · omega
    cases a with
    | false =>
      have fa2 : T - S - 1 ≤ 255 := by simpa using fa1
      cases b with
      | false =>
        have fb2 : FF - S - 1 ≤ 255 := by simpa using fb1
        simp only [cond_false] at m1 m2
        unfold jumpF at hyy
        simp only [cond_false, List.append_nil] at hyy
        rcases o with _ | o
        · simp only [List.getElem?_cons_zero, Option.some.injEq] at hyy
          subst hyy
          exact head _ _ ⟨by omega, by omega, by omega⟩ ⟨by omega, by omega, by omega⟩
        · simp at hyy
      | true =>
        simp only [cond_false, cond_true] at m1 m2
        unfold jumpF at hyy
        simp only [cond_false, cond_true, List.nil_append] at hyy
        rcases o with _ | _ | o
        · simp only [List.getElem?_cons_zero, Option.some.injEq] at hyy
          subst hyy
          exact head _ _ ⟨by omega, by omega, by omega⟩ ⟨by omega, by omega, by omega⟩
        · simp only [Nat.zero_add, List.getElem?_cons_succ, List.getElem?_cons_zero, Option.some.injEq] at hyy
          subst hyy
          exact ja_ok (by omega) (by omega) (by omega)
        · simp at hyy
    | true =>
      cases b with
      | false =>
        have fb2 : FF - S - 1 ≤ 255 := by simpa using fb1
        simp only [cond_false, cond_true] at m1 m2
        unfold jumpF at hyy
        simp only [cond_false, cond_true, List.append_nil] at hyy
        rcases o with _ | _ | o
        · simp only [List.getElem?_cons_zero, Option.some.injEq] at hyy
          subst hyy
          exact head _ _ ⟨by omega, by omega, by omega⟩ ⟨by omega, by omega, by omega⟩
        · simp only [Nat.zero_add, List.getElem?_cons_succ, List.getElem?_cons_zero, Option.some.injEq] at hyy
          subst hyy
          exact ja_ok (by omega) (by omega) (by omega)
        · simp at hyy
      | true =>
        simp only [cond_true] at m1 m2
        unfold jumpF at hyy
        simp only [cond_true, List.cons_append, List.nil_append] at hyy
        rcases o with _ | _ | _ | o
        · simp only [List.getElem?_cons_zero, Option.some.injEq] at hyy
          subst hyy
          exact head _ _ ⟨by omega, by omega, by omega⟩ ⟨by omega, by omega, by omega⟩
        · simp only [Nat.zero_add, List.getElem?_cons_succ, List.getElem?_cons_zero, Option.some.injEq] at hyy
          subst hyy
          exact ja_ok (by omega) (by omega) (by omega)
        · simp only [Nat.zero_add, List.getElem?_cons_succ, List.getElem?_cons_zero, Option.some.injEq] at hyy
          subst hyy
          exact ja_ok (by omega) (by omega) (by omega)
        · simp at hyy
  | false =>
    have hbl := hlast s hs
    cases h5 : x.code == 5 with
    | true =>
      have h5' : x.code = 5 := by simpa using h5
      have g1 := ja_goes h.right hx h5'
      have ht := tgt_t h hx (.inr h5') g1
      have m1 := sumC_mono (fa := fa) (i := s) (j := (nextF l s x.t).toNat) (by omega) (by omega)
      have hcnt := (cnt_ge (getB fa s)).1
      have b1 := hlast (nextF l s x.t).toNat (by omega)
      have hins : insF m (layF 0 fa) fa s x = [⟨5, 0, 0, IntKind.wrap .u32 (sumC (fa.take (nextF l s x.t).toNat) - sumC (fa.take s) - 1)⟩] := by
        unfold insF
        rw [hj, h5, hgs, ht]; rfl
      rw [hins] at hyy
      have hpos : posN fa s = (sumC (fa.take s)).toNat := rfl
      rcases o with _ | o
      · simp only [List.getElem?_cons_zero, Option.some.injEq] at hyy
        subst hyy
        exact ja_ok (by omega) (by omega) (by omega)
      · simp at hyy
    | false =>
      have hins : insF m (layF 0 fa) fa s x = [⟨x.code, 0, 0, x.k⟩] := by
        unfold insF
        rw [hj, h5]; rfl
      rw [hins] at hyy
      have hpos : posN fa s = (sumC (fa.take s)).toNat := rfl
      rcases o with _ | o
      · simp only [List.getElem?_cons_zero, Option.some.injEq] at hyy
        subst hyy
        refine ⟨⟨Int.le_refl 0, by simp only; decide⟩, ⟨Int.le_refl 0, by simp only; decide⟩, hcok, fun hc => ?_, fun hc => ?_, fun hc => ?_, hsx.abs, hsx.div, hsx.sh, hsx.cell, hsx.k⟩
        · simp only at hc; rw [hc] at h5; cases h5
        · simp only at hc; rw [hj] at hc; cases hc
        · have hl2 := last_ends h.right hx hc
          have m1 := sumC_mono (fa := fa) (i := s) (j := s + 1) (by omega) (by omega)
          have hcnt := (cnt_ge (getB fa s)).1
          have := hlast (s + 1) hl2
          omega
      · simp at hyy
/-- what is linked is let in -/
theorem link_checks {l : List Sym} (hl : l.length ≤ 1365) (hr : rightF l = true) (hk : ∀ x ∈ l, 0 ≤ x.k ∧ x.k < 2 ^ 32) (hb : ∀ x ∈ l, symB x = true) :
    Comp Try.prog 15 [lst Ins.row (outL l (linkM l) (linkFa l))] (.tup [.one (.d (.sc (.int .i64 (-1)))), .one (.d (.sc (.bool true)))]) := by
  have hf := fin_link hr
  have hlen := outL_len hf
  have hsc := sumC_le (linkFa l)
  have hfl := hf.len
  have hpos : 1 ≤ l.length := by
    cases l with
    | nil => unfold rightF at hr; simp at hr
    | cons x r => simp
  exact checkYes _ (by omega) (by omega) (link_ok hf (by omega) fun x hx => symB_ok (hb x hx) (hk x hx))
end Go.Proofs.Ytcplpllbinilmaa
