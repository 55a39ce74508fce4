/- Labels: what is linked runs as the symbols do. -/
import Derived.Test.YtcplpllbinilmaaLabp2
set_option linter.unusedVariables false
set_option linter.unusedSimpArgs false
namespace Go.Proofs.Ytcplpllbinilmaa
open Go Go.Am Go.Proofs
set_option maxRecDepth 10000
set_option maxHeartbeats 4000000
set_option linter.unusedVariables false
set_option linter.unusedSimpArgs false
theorem goes_t {l : List Sym} {m : LM} (hr : rightF l = true) (hg : labG [] l = true) (hm : mapOk m l) {i : Nat} {x : Sym} (hx : l[i]? = some x) (hc : isJumpF x.code = true ∨ x.code = 5) : (goesF m i x.t).1 = nextF l i x.t := by
  obtain ⟨h1, h2⟩ := goes_place hg hm i x.t
  refine h2 ?_
  rw [h1]
  have hb := right_at hr hx
  simp only [badF, badT, Bool.or_eq_false_iff] at hb
  have ht := hb.1.2
  have hcc : (x.code == 5 || isJumpF x.code) = true := by
    rcases hc with h | h
    · rw [h, Bool.or_true]
    · rw [h]; rfl
  rw [hcc, Bool.true_and] at ht
  simp only [Bool.or_eq_false_iff] at ht
  obtain ⟨⟨t1, t2⟩, t3⟩ := ht
  cases h0 : x.t == 0 with
  | true => rfl
  | false =>
    simp only [cond_false]
    rw [beq_eq_false_iff_ne] at h0
    rw [decide_eq_false_iff_not] at t1
    have : decide (x.t > 0) = true := by rw [decide_eq_true_eq]; omega
    rw [this, Bool.true_and] at t2 ⊢
    rw [decide_eq_false_iff_not] at t2
    rw [decide_eq_true_eq]; omega
theorem goes_f {l : List Sym} {m : LM} (hr : rightF l = true) (hg : labG [] l = true) (hm : mapOk m l) {i : Nat} {x : Sym} (hx : l[i]? = some x) (hc : isJumpF x.code = true) : (goesF m i x.f).1 = nextF l i x.f := by
  obtain ⟨h1, h2⟩ := goes_place hg hm i x.f
  refine h2 ?_
  rw [h1]
  have hb := right_at hr hx
  simp only [badF, badR, Bool.or_eq_false_iff] at hb
  have ht := hb.2
  rw [hc, Bool.true_and] at ht
  simp only [Bool.or_eq_false_iff] at ht
  obtain ⟨t1, t2⟩ := ht
  cases h0 : x.f == 0 with
  | true => rfl
  | false =>
    simp only [cond_false]
    rw [beq_eq_false_iff_ne] at h0
    rw [decide_eq_false_iff_not] at t1
    have : decide (x.f > 0) = true := by rw [decide_eq_true_eq]; omega
    rw [this, Bool.true_and] at t2 ⊢
    rw [decide_eq_false_iff_not] at t2
    rw [decide_eq_true_eq]; omega
theorem last_ends {l : List Sym} (hr : rightF l = true) {i : Nat} {x : Sym} (hx : l[i]? = some x) (he : endsF x.code = false) : i + 1 < l.length := by
  have hi := (List.getElem?_eq_some_iff.1 hx).1
  unfold rightF at hr
  simp only [Bool.and_eq_true] at hr
  have hl := hr.2
  unfold lastF at hl
  rw [List.getLast?_eq_getElem?] at hl
  by_cases h : i + 1 < l.length
  · exact h
  · have : l.length - 1 = i := by omega
    rw [this, hx] at hl
    change endsF x.code = true at hl
    rw [he] at hl; cases hl
theorem jump_ends {c : Int} (h : isJumpF c = true) : endsF c = false ∧ (c == 6) = false ∧ (c == 22) = false ∧ (c == 5) = false := by
  unfold isJumpF at h
  simp only [Bool.or_eq_true, beq_iff_eq] at h
  unfold endsF
  rcases h with ((((((h | h) | h) | h) | h) | h) | h) | h <;> subst h <;> decide
theorem next_lt {l : List Sym} (hr : rightF l = true) {i : Nat} {x : Sym} (hx : l[i]? = some x) (hc : isJumpF x.code = true) : ((i : Int) < nextF l i x.t ∧ nextF l i x.t < l.length) ∧ ((i : Int) < nextF l i x.f ∧ nextF l i x.f < l.length) := by
  have hi := (List.getElem?_eq_some_iff.1 hx).1
  have hl := last_ends hr hx (jump_ends hc).1
  have h1 := jt_goes hr hx hc
  have h2 := jf_goes hr hx hc
  have hne : ∀ t : Int, (i : Int) < nextF l i t → nextF l i t ≤ l.length → nextF l i t < l.length := by
    intro t h3 h4
    unfold nextF at *
    cases h0 : t == 0 with
    | true => rw [h0] at h3 h4; simp only [if_true] at h3 h4 ⊢; omega
    | false =>
      rw [h0] at h3 h4
      simp only [Bool.false_eq_true, if_false] at h3 h4 ⊢
      exact (place_gt hi (by omega)).2
  exact ⟨⟨h1.1, hne _ h1.1 h1.2⟩, h2.1, hne _ h2.1 h2.2⟩
theorem sumC_mono {fa : List (Bool × Bool)} {i j : Nat} (hij : i < j) (hj : j ≤ fa.length) : sumC (fa.take i) + cntF (getB fa i) ≤ sumC (fa.take j) := by
  have hp : fa[i]? = some fa[i] := List.getElem?_eq_getElem (by omega)
  have hg : getB fa i = fa[i] := by unfold getB; rw [hp]; rfl
  have h1 : sumC (fa.take (i + 1)) = sumC (fa.take i) + cntF (getB fa i) := by
    rw [List.take_add_one, hp, hg]
    exact sumC_snoc _ _
  have h2 := (sumC_take (fa.take j) (i + 1)).2
  rw [List.take_take, Nat.min_eq_left (by omega)] at h2
  omega
/-- a final spread -/
structure FinP (l : List Sym) (m : LM) (fa : List (Bool × Bool)) : Prop where
  right : rightF l = true
  lab : labG [] l = true
  map : mapOk m l
  len : fa.length = l.length
  still : stillP l fa
  far : ∀ (i : Nat) (x : Sym), l[i]? = some x → isJumpF x.code = true → sprAt m (layF 0 fa) fa i x = (false, false)
abbrev outL (l : List Sym) (m : LM) (fa : List (Bool × Bool)) : List Ins := outG m (layF 0 fa) fa 0 l
abbrev posN (fa : List (Bool × Bool)) (i : Nat) : Nat := (sumC (fa.take i)).toNat
theorem outL_len {l : List Sym} {m : LM} {fa : List (Bool × Bool)} (h : FinP l m fa) : ((outL l m fa).length : Int) = sumC fa := by
  have := out_len m (layF 0 fa) h.still h.len l.length (Nat.le_refl _)
  rw [List.take_length, ← h.len, List.take_length] at this
  exact this
theorem tgt_t {l : List Sym} {m : LM} {fa : List (Bool × Bool)} (h : FinP l m fa) {i : Nat} {x : Sym} (hx : l[i]? = some x) (hc : isJumpF x.code = true ∨ x.code = 5) (hlt : (i : Int) < nextF l i x.t ∧ nextF l i x.t < l.length) : (tgtF m (layF 0 fa) i x).1 = sumC (fa.take (nextF l i x.t).toNat) := by
  unfold tgtF
  simp only
  rw [goes_t h.right h.lab h.map hx hc]
  have hle := h.len
  have := getI_pos (fa := fa) (n := (nextF l i x.t).toNat) (by omega)
  rw [← this]; congr 1; omega
theorem tgt_f {l : List Sym} {m : LM} {fa : List (Bool × Bool)} (h : FinP l m fa) {i : Nat} {x : Sym} (hx : l[i]? = some x) (hc : isJumpF x.code = true) (hlt : (i : Int) < nextF l i x.f ∧ nextF l i x.f < l.length) : (tgtF m (layF 0 fa) i x).2 = sumC (fa.take (nextF l i x.f).toNat) := by
  unfold tgtF
  simp only
  rw [goes_f h.right h.lab h.map hx hc]
  have hle := h.len
  have := getI_pos (fa := fa) (n := (nextF l i x.f).toNat) (by omega)
  rw [← this]; congr 1; omega
theorem run_ja {out : List Ins} {d : Dat} {F : Nat} {n : Int} {i : Nat} {mach : Mach} {k : Int} (hi : out[i]? = some ⟨5, 0, 0, IntKind.wrap .u32 k⟩) (h0 : 0 ≤ k) (h1 : k < 4294967296) (h2 : k ≤ out.length) : runF out d (F + 1) n i mach = runF out d F (n + 1) (i + 1 + k.toNat) mach := by
  rw [wrap_u32 h0 h1] at hi
  rw [runF, hi]
  have e : decide (k > (out.length : Int)) = false := by rw [decide_eq_false_iff_not]; omega
  simp only [e]
  rfl
theorem leap_eq {len i : Nat} {j : Int} (h0 : 0 ≤ j) (h1 : j ≤ len) : leapF len i j = i + 1 + j.toNat := by
  unfold leapF
  have e1 : decide (j < 0) = false := by rw [decide_eq_false_iff_not]; omega
  have e2 : decide (j > (len : Int)) = false := by rw [decide_eq_false_iff_not]; omega
  rw [e1, e2]
  simp only [Bool.false_and, Bool.or_false, cond_false]
  omega
/-- a jump's instructions lead where the symbol does -/
theorem jump_sim {l : List Sym} {m : LM} {fa : List (Bool × Bool)} (h : FinP l m fa) (hL : sumC fa < 4294967296) {i : Nat} {x : Sym} (hx : l[i]? = some x) (hc : isJumpF x.code = true) (d : Dat) (F : Nat) (n : Int) (mach : Mach) :
    ∃ (F' : Nat) (n' : Int), F ≤ F' ∧ runF (outL l m fa) d (F + 2) n (posN fa i) mach = runF (outL l m fa) d F' n' (posN fa (bif jumpsF x.code mach.a (withF mach x.code x.k) then (nextF l i x.t).toNat else (nextF l i x.f).toNat)) mach := by
  have hi := (List.getElem?_eq_some_iff.1 hx).1
  obtain ⟨e1, e2, e3, e4⟩ := jump_ends hc
  obtain ⟨g1, g2⟩ := next_lt h.right hx hc
  have ht := tgt_t h hx (.inl hc) g1
  have hf := tgt_f h hx hc g2
  have hle := h.len
  have hs := getI_pos (fa := fa) (n := i) (by omega)
  have hlen := outL_len h
  have m1 := sumC_mono (fa := fa) (i := i) (j := (nextF l i x.t).toNat) (by omega) (by omega)
  have m2 := sumC_mono (fa := fa) (i := i) (j := (nextF l i x.f).toNat) (by omega) (by omega)
  have b1 := (sumC_take fa (nextF l i x.t).toNat).2
  have b2 := (sumC_take fa (nextF l i x.f).toNat).2
  have b3 := (sumC_take fa i).1
  have hins : insF m (layF 0 fa) fa i x = jumpF x (sumC (fa.take i)) (sumC (fa.take (nextF l i x.t).toNat)) (sumC (fa.take (nextF l i x.f).toNat)) (getB fa i).1 (getB fa i).2 := by
    unfold insF
    rw [hc, cond_true, hs, ht, hf]
  have hat := fun k hk => out_at m (layF 0 fa) h.still h.len hx (k := k) hk
  rw [hins] at hat
  unfold posN
  generalize getB fa i = p at *
  obtain ⟨a, b⟩ := p
  generalize hT : (nextF l i x.t).toNat = T at *
  generalize hFF : (nextF l i x.f).toNat = FF at *
  generalize hS : sumC (fa.take i) = s at *
  have hfirst := hat 0 (by unfold jumpF; simp)
  rw [Nat.add_zero] at hfirst
  have hrun : ∀ q : Bool, jumpsF x.code mach.a (withF mach x.code x.k) = q → runF (outL l m fa) d (F + 2) n s.toNat mach = runF (outL l m fa) d (F + 1) (n + 1) (leapF (outL l m fa).length s.toNat (bif q then (bif a then 0 else sumC (fa.take T) - s - 1) else (bif b then (bif a then 1 else 0) else sumC (fa.take FF) - s - 1))) mach := by
    intro q hq
    rw [runF, hfirst]
    simp only [jumpF, List.getElem?_cons_zero, e2, e3, e4, hc, cond_true, cond_false]
    rw [hq]
  have c0 : cntF (a, b) = 1 + (bif a then 1 else 0) + (bif b then 1 else 0) := rfl
  cases hq : jumpsF x.code mach.a (withF mach x.code x.k) with
  | true =>
    rw [hrun true hq]
    simp only [cond_true]
    cases a with
    | false =>
      simp only [cond_false]
      refine ⟨F + 1, n + 1, by omega, ?_⟩
      rw [leap_eq (by rw [c0] at m1; cases b <;> simp at m1 <;> omega) (by omega)]
      congr 1
      rw [c0] at m1
      cases b <;> simp at m1 <;> omega
    | true =>
      simp only [cond_true]
      rw [leap_eq (by omega) (by omega)]
      have h1 := hat 1 (by unfold jumpF; simp)
      have h1 : (outL l m fa)[s.toNat + 1]? = some ⟨5, 0, 0, IntKind.wrap .u32 (sumC (fa.take T) - s - 2)⟩ := by rw [h1]; unfold jumpF; rfl
      have m1' : s + 2 ≤ sumC (fa.take T) := by rw [c0] at m1; cases b <;> simp at m1 <;> omega
      refine ⟨F, n + 1 + 1, Nat.le_refl _, ?_⟩
      rw [show s.toNat + 1 + (0 : Int).toNat = s.toNat + 1 from rfl, run_ja h1 (by omega) (by omega) (by omega)]
      congr 1
      omega
  | false =>
    rw [hrun false hq]
    simp only [cond_false]
    cases b with
    | false =>
      simp only [cond_false]
      refine ⟨F + 1, n + 1, by omega, ?_⟩
      rw [leap_eq (by rw [c0] at m2; cases a <;> simp at m2 <;> omega) (by omega)]
      congr 1
      rw [c0] at m2
      cases a <;> simp at m2 <;> omega
    | true =>
      simp only [cond_true]
      cases a with
      | false =>
        simp only [cond_false]
        rw [leap_eq (by omega) (by omega)]
        have h1 := hat 1 (by unfold jumpF; simp)
        have h1 : (outL l m fa)[s.toNat + 1]? = some ⟨5, 0, 0, IntKind.wrap .u32 (sumC (fa.take FF) - s - 2)⟩ := by rw [h1]; unfold jumpF; rfl
        have m1' : s + 2 ≤ sumC (fa.take FF) := by rw [c0] at m2; simp at m2; omega
        refine ⟨F, n + 1 + 1, Nat.le_refl _, ?_⟩
        rw [show s.toNat + 1 + (0 : Int).toNat = s.toNat + 1 from rfl, run_ja h1 (by omega) (by omega) (by omega)]
        congr 1
        omega
      | true =>
        simp only [cond_true]
        have m1' : s + 3 ≤ sumC (fa.take FF) := by rw [c0] at m2; simp at m2; omega
        rw [leap_eq (by omega) (by omega)]
        have h1 := hat 2 (by unfold jumpF; simp)
        have h1 : (outL l m fa)[s.toNat + 2]? = some ⟨5, 0, 0, IntKind.wrap .u32 (sumC (fa.take FF) - s - 3)⟩ := by rw [h1]; unfold jumpF; rfl
        refine ⟨F, n + 1 + 1, Nat.le_refl _, ?_⟩
        rw [show s.toNat + 1 + (1 : Int).toNat = s.toNat + 2 from rfl, run_ja h1 (by omega) (by omega) (by omega)]
        congr 1
        omega
theorem ends_no {c : Int} (h6 : (c == 6) = false) (h22 : (c == 22) = false) : endsF c = false := by unfold endsF; rw [h6, h22]; rfl
/-- what is linked runs as the symbols do -/
theorem link_sim {l : List Sym} {m : LM} {fa : List (Bool × Bool)} (h : FinP l m fa) (hL : sumC fa < 4294967296) (d : Dat) : ∀ (c G F i : Nat) (n : Int) (mach : Mach), l.length - i ≤ c → i < l.length → l.length - i < G → 2 * (l.length - i) ≤ F →
    (runF (outL l m fa) d F n (posN fa i) mach).1 = (runSyms l d G i mach).1 ∧ (runF (outL l m fa) d F n (posN fa i) mach).2.2 = (runSyms l d G i mach).2
  | 0, G, F, i, n, mach, h1, h2, _, _ => by omega
  | c + 1, 0, F, i, n, mach, h1, h2, h3, _ => by omega
  | c + 1, G + 1, F, i, n, mach, h1, h2, h3, h4 => by
    obtain ⟨x, hx⟩ : ∃ x, l[i]? = some x := ⟨l[i], List.getElem?_eq_getElem h2⟩
    obtain ⟨F, rfl⟩ : ∃ F', F = F' + 2 := ⟨F - 2, by omega⟩
    have hle := h.len
    have ih := fun F j n mach (g1 : i < j) (g2 : j < l.length) (g3 : 2 * (l.length - j) ≤ F) => link_sim h hL d c G F j n mach (by omega) g2 (by omega) g3
    rw [runSyms, hx]
    simp only
    cases hj : isJumpF x.code with
    | true =>
      obtain ⟨e1, e2, e3, e4⟩ := jump_ends hj
      obtain ⟨g1, g2⟩ := next_lt h.right hx hj
      obtain ⟨F', n', hF, hrun⟩ := jump_sim h hL hx hj d F n mach
      rw [hrun]
      simp only [e2, e3, e4, cond_false, cond_true]
      cases jumpsF x.code mach.a (withF mach x.code x.k) with
      | true => simp only [cond_true]; exact ih F' _ n' mach (by omega) (by omega) (by omega)
      | false => simp only [cond_false]; exact ih F' _ n' mach (by omega) (by omega) (by omega)
    | false =>
    have hs := getI_pos (fa := fa) (n := i) (by omega)
    have hat := fun k hk => out_at m (layF 0 fa) h.still h.len hx (k := k) hk
    have b3 := (sumC_take fa i).1
    cases h5 : x.code == 5 with
    | true =>
      have h5' : x.code = 5 := by simpa using h5
      have g1 := ja_goes h.right hx h5'
      have ht := tgt_t h hx (.inr h5') g1
      have m1 := sumC_mono (fa := fa) (i := i) (j := (nextF l i x.t).toNat) (by omega) (by omega)
      have hcnt := (cnt_ge (getB fa i)).1
      have b1 := (sumC_take fa (nextF l i x.t).toNat).2
      have hlen := outL_len h
      have hins : insF m (layF 0 fa) fa i x = [⟨5, 0, 0, IntKind.wrap .u32 (sumC (fa.take (nextF l i x.t).toNat) - sumC (fa.take i) - 1)⟩] := by
        unfold insF
        rw [hj, h5, hs, ht]; rfl
      rw [hins] at hat
      have h0 : (outL l m fa)[posN fa i]? = some ⟨5, 0, 0, IntKind.wrap .u32 (sumC (fa.take (nextF l i x.t).toNat) - sumC (fa.take i) - 1)⟩ := by
        have := hat 0 (by simp)
        rw [Nat.add_zero] at this; rw [this]; rfl
      rw [show F + 2 = (F + 1) + 1 from rfl, run_ja h0 (by omega) (by omega) (by omega)]
      simp only [show (x.code == 6) = false from by rw [h5']; rfl, show (x.code == 22) = false from by rw [h5']; rfl, cond_false, cond_true]
      have e : posN fa i + 1 + (sumC (fa.take (nextF l i x.t).toNat) - sumC (fa.take i) - 1).toNat = posN fa (nextF l i x.t).toNat := by
        show (sumC (fa.take i)).toNat + 1 + _ = (sumC (fa.take (nextF l i x.t).toNat)).toNat
        omega
      rw [e]
      exact ih (F + 1) _ (n + 1) mach (by omega) (by omega) (by omega)
    | false =>
      have hins : insF m (layF 0 fa) fa i x = [⟨x.code, 0, 0, x.k⟩] := by
        unfold insF
        rw [hj, h5]; rfl
      rw [hins] at hat
      have h0 : (outL l m fa)[posN fa i]? = some ⟨x.code, 0, 0, x.k⟩ := by
        have := hat 0 (by simp)
        rw [Nat.add_zero] at this; rw [this]; rfl
      rw [show F + 2 = (F + 1) + 1 from rfl, runF, h0]
      simp only [hj, h5, cond_false]
      cases h6 : x.code == 6 with
      | true => exact ⟨rfl, rfl⟩
      | false =>
      cases h22 : x.code == 22 with
      | true => exact ⟨rfl, rfl⟩
      | false =>
      simp only [cond_false]
      have hl := last_ends h.right hx (ends_no h6 h22)
      cases (plainF mach x.code x.k d).2.2 with
      | true => exact ⟨rfl, rfl⟩
      | false =>
      simp only [cond_false]
      cases (plainF mach x.code x.k d).2.1 with
      | false => exact ⟨rfl, rfl⟩
      | true =>
        simp only [Bool.not_true, cond_false]
        have hcnt : cntF (getB fa i) = 1 := by rw [h.still i x hx hj]; rfl
        have hp : fa[i]? = some fa[i] := List.getElem?_eq_getElem (by omega)
        have hg : getB fa i = fa[i] := by unfold getB; rw [hp]; rfl
        have e : posN fa i + 1 = posN fa (i + 1) := by
          show (sumC (fa.take i)).toNat + 1 = (sumC (fa.take (i + 1))).toNat
          rw [List.take_add_one, hp]
          simp only [Option.toList_some]
          rw [sumC_snoc, ← hg, hcnt]; omega
        rw [e]
        exact ih (F + 1) (i + 1) (n + 1) _ (by omega) hl (by omega)
end Go.Proofs.Ytcplpllbinilmaa
