/- Labels: jumps that are spread until none is too far; where each symbol's instructions stand. -/
import Derived.Test.YtcplpllbinilmaaLabp1
import Derived.Test.YtcplpllbinilmaaLab17
import Derived.Test.YtcplpllbinilmaaLab9
import Derived.Test.YtcplpllbinilmaaLab8
set_option linter.unusedVariables false
set_option linter.unusedSimpArgs false
namespace Go.Proofs.Ytcplpllbinilmaa
open Go Go.Am Go.Proofs
set_option maxRecDepth 10000
set_option maxHeartbeats 4000000
set_option linter.unusedVariables false
set_option linter.unusedSimpArgs false
def sprL (l : List Sym) (m : LM) : Nat → List (Bool × Bool) → List (Bool × Bool)
  | 0, fa => fa
  | n + 1, fa => bif (sprF m (layF 0 fa) false fa 0 l).1 then sprL l m n (sprF m (layF 0 fa) false fa 0 l).2 else fa
theorem spr_len (m : LM) (pl : List Int) : ∀ (r : List Sym) (mo : Bool) (fa : List (Bool × Bool)) (i : Nat), (sprF m pl mo fa i r).2.length = fa.length
  | [], _, _, _ => rfl
  | x :: r, mo, fa, i => by
    rw [sprF]
    cases isJumpF x.code with
    | false => exact spr_len m pl r _ _ _
    | true =>
      simp only [cond_true]
      rw [spr_len m pl r]
      cases (sprAt m pl fa i x).1 || (sprAt m pl fa i x).2 <;> simp
/-- how many jumps' sides go by a Ja -/
def twoC (p : Bool × Bool) : Nat := (bif p.1 then 1 else 0) + (bif p.2 then 1 else 0)
def cntT : List (Bool × Bool) → Nat
  | [] => 0
  | p :: r => twoC p + cntT r
theorem cntT_le : ∀ fa : List (Bool × Bool), cntT fa ≤ 2 * fa.length
  | [] => by simp [cntT]
  | p :: r => by
    have := cntT_le r
    have h2 : twoC p ≤ 2 := by
      obtain ⟨a, b⟩ := p
      cases a <;> cases b <;> decide
    rw [cntT, List.length_cons]; omega
theorem cntT_set : ∀ (fa : List (Bool × Bool)) (i : Nat) (p q : Bool × Bool), fa[i]? = some p → cntT (fa.set i q) + twoC p = cntT fa + twoC q
  | [], i, p, q, h => by simp at h
  | a :: r, 0, p, q, h => by
    simp only [List.getElem?_cons_zero, Option.some.injEq] at h
    subst h
    rw [List.set_cons_zero, cntT, cntT]; omega
  | a :: r, i + 1, p, q, h => by
    have := cntT_set r i p q (by simpa using h)
    rw [List.set_cons_succ, cntT, cntT]; omega
theorem spr_more (m : LM) (pl : List Int) : ∀ (r : List Sym) (mo : Bool) (fa : List (Bool × Bool)) (i : Nat), i + r.length ≤ fa.length → cntT fa ≤ cntT (sprF m pl mo fa i r).2 ∧ ((sprF m pl mo fa i r).1 = true → mo = true ∨ cntT fa < cntT (sprF m pl mo fa i r).2)
  | [], mo, fa, i, _ => ⟨Nat.le_refl _, fun h => .inl h⟩
  | x :: r, mo, fa, i, hi => by
    rw [List.length_cons] at hi
    rw [sprF]
    cases isJumpF x.code with
    | false => exact spr_more m pl r mo fa (i + 1) (by omega)
    | true =>
      simp only [cond_true]
      obtain ⟨p, hp⟩ : ∃ p, fa[i]? = some p := ⟨fa[i]'(by omega), List.getElem?_eq_getElem _⟩
      have hgb : getB fa i = p := by unfold getB; rw [hp]; rfl
      have hat : sprAt m pl fa i x = (!p.1 && farF pl i (tgtF m pl i x).1, !p.2 && farF pl i (tgtF m pl i x).2) := by unfold sprAt; rw [hgb]
      rw [hat, hgb]
      generalize farF pl i (tgtF m pl i x).1 = A
      generalize farF pl i (tgtF m pl i x).2 = B
      obtain ⟨a, b⟩ := p
      simp only
      have hset := cntT_set fa i (a, b) (a || (!a && A), b || (!b && B)) hp
      cases hc : (!a && A) || (!b && B) with
      | false =>
        simp only [cond_false]
        have hmo : (mo || (!a && A) || (!b && B)) = mo := by rw [Bool.or_assoc, hc, Bool.or_false]
        rw [hmo]
        exact spr_more m pl r mo fa (i + 1) (by omega)
      | true =>
        simp only [cond_true]
        have ih := spr_more m pl r (mo || (!a && A) || (!b && B)) (fa.set i (a || (!a && A), b || (!b && B))) (i + 1) (by rw [List.length_set]; omega)
        have hlt : cntT fa < cntT (fa.set i (a || (!a && A), b || (!b && B))) := by
          cases a <;> cases b <;> cases A <;> cases B <;> simp [twoC] at hset hc ⊢ <;> omega
        exact ⟨by omega, fun _ => .inr (by omega)⟩
/-- none goes too far where no more is spread -/
theorem spr_false (m : LM) (pl : List Int) : ∀ (r : List Sym) (mo : Bool) (fa : List (Bool × Bool)) (i : Nat), (sprF m pl mo fa i r).1 = false → mo = false ∧ (sprF m pl mo fa i r).2 = fa ∧ ∀ (n : Nat) (x : Sym), r[n]? = some x → isJumpF x.code = true → sprAt m pl fa (i + n) x = (false, false)
  | [], mo, fa, i, h => ⟨h, rfl, fun n x hx => by simp at hx⟩
  | x :: r, mo, fa, i, h => by
    rw [sprF] at h ⊢
    cases hj : isJumpF x.code with
    | false =>
      rw [hj] at h
      simp only [cond_false] at h ⊢
      obtain ⟨h1, h2, h3⟩ := spr_false m pl r mo fa (i + 1) h
      refine ⟨h1, h2, fun n y hy hc => ?_⟩
      cases n with
      | zero =>
        simp only [List.getElem?_cons_zero, Option.some.injEq] at hy
        subst hy; rw [hj] at hc; cases hc
      | succ n =>
        have := h3 n y (by simpa using hy) hc
        rwa [show i + 1 + n = i + (n + 1) from by omega] at this
    | true =>
      rw [hj] at h
      simp only [cond_true] at h ⊢
      obtain ⟨h1, h2, h3⟩ := spr_false m pl r _ _ (i + 1) h
      rw [Bool.or_assoc, Bool.or_eq_false_iff] at h1
      obtain ⟨h1, h4⟩ := h1
      rw [h4] at h2 h3 ⊢
      simp only [cond_false] at h2 h3 ⊢
      refine ⟨h1, h2, fun n y hy hc => ?_⟩
      cases n with
      | zero =>
        simp only [List.getElem?_cons_zero, Option.some.injEq] at hy
        subst hy
        rw [Bool.or_eq_false_iff] at h4
        rw [Nat.add_zero]
        exact Prod.ext h4.1 h4.2
      | succ n =>
        have := h3 n y (by simpa using hy) hc
        rwa [show i + 1 + n = i + (n + 1) from by omega] at this
/-- what does not jump is not spread -/
def stillP (l : List Sym) (fa : List (Bool × Bool)) : Prop := ∀ (i : Nat) (x : Sym), l[i]? = some x → isJumpF x.code = false → getB fa i = (false, false)
theorem spr_still (m : LM) (pl : List Int) (l : List Sym) : ∀ (r done : List Sym) (mo : Bool) (fa : List (Bool × Bool)), l = done ++ r → stillP l fa → stillP l (sprF m pl mo fa done.length r).2
  | [], _, _, _, _, h => h
  | x :: r, done, mo, fa, hl, h => by
    rw [sprF]
    have ih := fun mo fa => spr_still m pl l r (done ++ [x]) mo fa (by rw [hl]; simp)
    simp only [List.length_append, List.length_cons, List.length_nil, Nat.zero_add] at ih
    cases hj : isJumpF x.code with
    | false => exact ih mo fa h
    | true =>
      simp only [cond_true]
      refine ih _ _ ?_
      cases (sprAt m pl fa done.length x).1 || (sprAt m pl fa done.length x).2 with
      | false => exact h
      | true =>
        intro i y hy hc
        simp only [cond_true]
        have hne : done.length ≠ i := by
          rintro rfl
          rw [hl] at hy
          simp at hy
          subst hy; rw [hj] at hc; cases hc
        unfold getB
        rw [List.getElem?_set_ne hne]
        exact h i y hy hc
theorem sprL_ok (l : List Sym) (m : LM) : ∀ (n : Nat) (fa : List (Bool × Bool)), fa.length = l.length → stillP l fa → 2 * l.length + 1 ≤ n + cntT fa → (sprL l m n fa).length = l.length ∧ stillP l (sprL l m n fa) ∧ (sprF m (layF 0 (sprL l m n fa)) false (sprL l m n fa) 0 l).1 = false
  | 0, fa, h1, _, h3 => by
    have := cntT_le fa
    omega
  | n + 1, fa, h1, h2, h3 => by
    rw [sprL]
    cases hs : (sprF m (layF 0 fa) false fa 0 l).1 with
    | false => exact ⟨h1, h2, hs⟩
    | true =>
      simp only [cond_true]
      have hm := (spr_more m (layF 0 fa) l false fa 0 (by omega)).2 hs
      refine sprL_ok l m n _ (by rw [spr_len]; exact h1) (spr_still m (layF 0 fa) l l [] false fa rfl h2) ?_
      rcases hm with h | h
      · cases h
      · omega
/-! where each symbol's instructions stand -/
def sumC : List (Bool × Bool) → Int
  | [] => 0
  | p :: r => cntF p + sumC r
theorem lay_get : ∀ (fa : List (Bool × Bool)) (s : Int) (n : Nat), n < fa.length → (layF s fa)[n]? = some (s + sumC (fa.take n))
  | [], s, n, h => by simp at h
  | p :: r, s, 0, _ => by rw [layF]; simp [sumC]
  | p :: r, s, n + 1, h => by
    rw [layF, List.getElem?_cons_succ, lay_get r _ n (by simpa using h), List.take_succ_cons, sumC]
    congr 1; omega
theorem getI_pos {fa : List (Bool × Bool)} {n : Nat} (h : n < fa.length) : getI (layF 0 fa) n = sumC (fa.take n) := by
  unfold getI
  rw [Int.toNat_natCast, lay_get fa 0 n h]
  simp
def outG (m : LM) (pl : List Int) (fa : List (Bool × Bool)) : Nat → List Sym → List Ins
  | _, [] => []
  | i, x :: r => insF m pl fa i x ++ outG m pl fa (i + 1) r
theorem ins_len (m : LM) (pl : List Int) {l : List Sym} {fa : List (Bool × Bool)} (hs : stillP l fa) {i : Nat} {x : Sym} (hx : l[i]? = some x) : ((insF m pl fa i x).length : Int) = cntF (getB fa i) := by
  unfold insF
  cases hj : isJumpF x.code with
  | false =>
    rw [hs i x hx hj]
    simp only [cond_false]
    cases x.code == 5 <;> rfl
  | true =>
    simp only [cond_true]
    unfold jumpF
    obtain ⟨a, b⟩ := getB fa i
    cases a <;> cases b <;> rfl
theorem out_app (m : LM) (pl : List Int) (fa : List (Bool × Bool)) : ∀ (a b : List Sym) (i : Nat), outG m pl fa i (a ++ b) = outG m pl fa i a ++ outG m pl fa (i + a.length) b
  | [], b, i => rfl
  | x :: a, b, i => by
    rw [List.cons_append, outG, outG, out_app m pl fa a b (i + 1), List.append_assoc, List.length_cons, show i + 1 + a.length = i + (a.length + 1) from by omega]
theorem sumC_snoc (p : Bool × Bool) : ∀ fa : List (Bool × Bool), sumC (fa ++ [p]) = sumC fa + cntF p
  | [] => by simp [sumC]
  | q :: fa => by rw [List.cons_append, sumC, sumC, sumC_snoc p fa]; omega
theorem out_len (m : LM) (pl : List Int) {l : List Sym} {fa : List (Bool × Bool)} (hs : stillP l fa) (hl : fa.length = l.length) : ∀ (n : Nat), n ≤ l.length → ((outG m pl fa 0 (l.take n)).length : Int) = sumC (fa.take n)
  | 0, _ => rfl
  | n + 1, h => by
    have ih := out_len m pl hs hl n (by omega)
    have hx : l[n]? = some l[n] := List.getElem?_eq_getElem (by omega)
    have hp : fa[n]? = some fa[n] := List.getElem?_eq_getElem (by omega)
    have hg : getB fa n = fa[n] := by unfold getB; rw [hp]; rfl
    have hi := ins_len m pl hs hx
    rw [hg] at hi
    rw [List.take_add_one, hx, List.take_add_one, hp]
    simp only [Option.toList_some]
    rw [out_app, sumC_snoc, List.length_append, outG, outG, List.append_nil, List.length_take, Nat.min_eq_left (by omega), Nat.zero_add]
    omega
theorem sumC_le : ∀ fa : List (Bool × Bool), (fa.length : Int) ≤ sumC fa ∧ sumC fa ≤ 3 * fa.length
  | [] => by simp [sumC]
  | p :: r => by
    have := sumC_le r
    have := cnt_ge p
    rw [sumC, List.length_cons]; omega
theorem sumC_take (fa : List (Bool × Bool)) (n : Nat) : 0 ≤ sumC (fa.take n) ∧ sumC (fa.take n) ≤ sumC fa := by
  have h : sumC fa = sumC (fa.take n) + sumC (fa.drop n) := by
    have hsp : ∀ a b : List (Bool × Bool), sumC (a ++ b) = sumC a + sumC b := by
      intro a
      induction a with
      | nil => intro b; simp [sumC]
      | cons p a ih => intro b; rw [List.cons_append, sumC, sumC, ih b]; omega
    rw [← hsp, List.take_append_drop]
  have h1 := sumC_le (fa.take n)
  have h2 := sumC_le (fa.drop n)
  omega
/-- the instructions of a symbol, in the filter -/
theorem out_at (m : LM) (pl : List Int) {l : List Sym} {fa : List (Bool × Bool)} (hs : stillP l fa) (hl : fa.length = l.length) {i : Nat} {x : Sym} (hx : l[i]? = some x) {k : Nat} (hk : k < (insF m pl fa i x).length) : (outG m pl fa 0 l)[(sumC (fa.take i)).toNat + k]? = (insF m pl fa i x)[k]? := by
  have hi := (List.getElem?_eq_some_iff.1 hx).1
  have hlen := out_len m pl hs hl i (by omega)
  have hdec : l = l.take i ++ x :: l.drop (i + 1) := by
    rw [← drop_one hx, List.take_append_drop]
  have hd2 : outG m pl fa 0 l = outG m pl fa 0 (l.take i) ++ (insF m pl fa i x ++ outG m pl fa (i + 1) (l.drop (i + 1))) := by
    conv => lhs; rw [hdec]
    rw [out_app, outG, List.length_take, Nat.min_eq_left (by omega), Nat.zero_add]
  rw [hd2, List.getElem?_append_right (by omega), List.getElem?_append_left (by omega)]
  congr 1; omega
end Go.Proofs.Ytcplpllbinilmaa
