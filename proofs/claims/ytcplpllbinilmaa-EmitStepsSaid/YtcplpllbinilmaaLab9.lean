/- The reference's runs: of instructions. -/
import Derived.Test.YtcplpllbinilmaaLab8
set_option linter.unusedVariables false
set_option linter.unusedSimpArgs false
namespace Go.Proofs.Ytcplpllbinilmaa
open Go Go.Am Go.Proofs
attribute [local irreducible] W WL DL WO RoundEnd
set_option maxRecDepth 10000
set_option maxHeartbeats 4000000
set_option linter.unusedVariables false
set_option linter.unusedSimpArgs false
/-- where a jump by a number leads -/
def leapF (len : Nat) (i : Nat) (j : Int) : Nat := bif (decide (j < 0) && decide ((i : Int) + 1 + j < 0)) || decide (j > (len : Int)) then len else ((i : Int) + 1 + j).toNat
/-- how instructions run: so many steps at most; how many there were -/
def runF (l : List Ins) (d : Dat) : Nat → Int → Nat → Mach → Int × Int × Bool
  | 0, _, _, _ => (0, 4096, false)
  | f + 1, n, i, m => match l[i]? with
    | none => (0, n, false)
    | some x =>
      bif x.code == 6 then (x.k, n + 1, true)
      else bif x.code == 22 then (m.a, n + 1, true)
      else bif x.code == 5 then bif decide (x.k > (l.length : Int)) then runF l d f (n + 1) l.length m else runF l d f (n + 1) (i + 1 + x.k.toNat) m
      else bif isJumpF x.code then
        runF l d f (n + 1) (leapF l.length i (bif jumpsF x.code m.a (withF m x.code x.k) then x.jt else x.jf)) m
      else bif (plainF m x.code x.k d).2.2 then (0, n + 1, true)
      else bif !(plainF m x.code x.k d).2.1 then (0, n, false)
      else runF l d f (n + 1) (i + 1) (plainF m x.code x.k d).1
def run3V (r : Int × Int × Bool) : V := .tup [.one (.d (.sc (.int .u32 r.1))), .one (.d (.sc (.int .i64 r.2.1))), .one (.d (.sc (.bool r.2.2)))]
def Ins.ok (x : Ins) : Prop := (-9223372036854775808 ≤ x.jt ∧ x.jt < 9223372036854775808) ∧ (-9223372036854775808 ≤ x.jf ∧ x.jf < 9223372036854775808) ∧ 0 ≤ x.k ∧ x.k < 2 ^ 32
theorem runR (l : List Ins) (d : Dat) (hl : l.length < 2 ^ 40) (hd : d.ok) (hk : ∀ x ∈ l, x.ok) : Comp Try.prog 13 [lst Ins.row l, .agg (d.row.map .d)] (run3V (runF l d 4096 0 0 Mach.zero)) := by
  generalize hfb : runF l d 4096 0 0 Mach.zero = fb
  have hpl := fun m c k (hm : m.ok) (h : 0 ≤ k ∧ k < 2 ^ 32) => plainR m c k d hm hd h.1 h.2
  unfold PlainS at hpl
  clear hd
  have ez : Mach.zero.cells = [w32 0, w32 0, w32 0, w32 0, w32 0, w32 0, w32 0, w32 0, w32 0, w32 0, w32 0, w32 0, w32 0, w32 0, w32 0, w32 0, w32 0, w32 0] := rfl
  obtain ⟨nr, ar, ip, a0, a1, a2, a3, a4, a5⟩ := d
  refine Spec.body (C := cx [] 127) fits (fn := Try.f13) Try.func13 rfl (by decide) (by decide) (gI ?_)
  repeat' (first | (refine C_r ?_; (conv => whnf); first | refine A_o ?_) | fail)
  refine wLoop [0, 3, 7, 8, 9] 2 (4096 + 1) ?_
  refine (fun key => key 4096 0 0 Mach.zero _ _ rfl rfl hfb.symm (by decide) (by omega) (by omega) zero_ok :
    (∀ (f i : Nat) (n : Int) (m : Mach) (j n' : Int), j = i → n' = n → fb = runF l ⟨nr, ar, ip, a0, a1, a2, a3, a4, a5⟩ f n i m → n + f = 4096 → 0 ≤ n → i < 2 ^ 42 → m.ok →
    WR2 _ _ _ _ _ (f + 1) [(0, lst Ins.row l), (3, .one (.ptr 0 0)), (7, .one (.ptr 1 0)), (8, int .i64 j), (9, int .i64 n')] [.var ((Dat.row ⟨nr, ar, ip, a0, a1, a2, a3, a4, a5⟩).map .d), .var m.cells]) → _) ?_
  intro f
  induction f with
  | zero =>
    intro i n m j n' h1 h2 h3 h4 hn h5 hm
    subst h2
    rw [runF] at h3
    have e1 : decide (n' < 4096) = false := decide_eq_false (by omega)
    refine wR (gI ?_)
    repeat' (first | ((first | refine C_r ?_ | refine O_r ?_); (conv => whnf); first | (refine ⟨fun hb => ?_, fun hb => ?_⟩ <;> try exact no_way) | refine A_o ?_ | refine fR ?_) | fail)
    exact ⟨by rw [h3]; rfl, rfl⟩
  | succ f ih =>
    intro i n m j n' h1 h2 h3 h4 hn h5 hm
    subst h2
    rw [runF] at h3
    have e0 : decide (n' < 4096) = true := decide_eq_true (by omega)
    have ej : decide (j < 0) = false := decide_eq_false (by omega)
    rcases hx : l[i]? with _ | x
    · have hi : l.length ≤ i := List.getElem?_eq_none_iff.1 hx
      rw [hx] at h3
      simp only at h3
      refine wR (gI ?_)
      repeat' (first | ((first | refine C_r ?_ | refine O_r ?_); (conv => whnf); first | (refine ⟨fun hb => ?_, fun hb => ?_⟩ <;> try exact no_way) | refine fR ?_) | fail)
      exact ⟨by rw [h3]; rfl, rfl⟩
    · have hi := (List.getElem?_eq_some_iff.1 hx).1
      have hxo := hk x (List.mem_of_getElem? hx)
      have c1 := isJumpR x.code
      have c4 := jumpsRef x.code m.a (withF m x.code x.k)
      have c5 := withR m x.code x.k
      have c6 := hpl m x.code x.k hm hxo.2.2
      have c7 := plain_ok m x.code x.k ⟨nr, ar, ip, a0, a1, a2, a3, a4, a5⟩ hm hxo.2.2
      rw [hx] at h3
      simp only at h3
      have hro : (l.map Ins.row)[j.toNat]? = some (Ins.row x) := by
        rw [h1, List.getElem?_map]
        show Option.map Ins.row l[i]? = _
        rw [hx]; rfl
      have hw1 : IntKind.wrap .i64 (n' + 1) = n' + 1 := wrap_ok (by omega) (by omega)
      have hw2 : IntKind.wrap .i64 (j + 1) = ((i + 1 : Nat) : Int) := by rw [wrap_ok (by omega) (by omega)]; omega
      obtain ⟨xc, xt, xf, xk⟩ := x
      obtain ⟨hxt, hxf, hxk⟩ := hxo
      simp only at c1 c4 c5 c6 c7 h3 hxt hxf hxk
      cases e1 : xc == 6 with
      | true =>
        rw [e1, cond_true] at h3
        refine wR (gI ?_)
        repeat' (first | ((first | refine C_r ?_ | refine O_r ?_); (conv => whnf); first | (refine ⟨fun hb => ?_, fun hb => ?_⟩ <;> try exact no_way) | refine B_o ?_ | refine fR ?_) | refine X_l ?_ | fail)
        exact ⟨by rw [h3, hw1]; rfl, rfl⟩
      | false =>
      cases e2 : xc == 22 with
      | true =>
        rw [e1, e2, cond_false, cond_true] at h3
        refine wR (gI ?_)
        repeat' (first | ((first | refine C_r ?_ | refine O_r ?_); (conv => whnf); first | (refine ⟨fun hb => ?_, fun hb => ?_⟩ <;> try exact no_way) | refine B_o ?_ | refine fR ?_) | refine X_l ?_ | fail)
        exact ⟨by rw [h3, hw1]; rfl, rfl⟩
      | false =>
      cases e3 : xc == 5 with
      | true =>
        rw [e1, e2, e3, cond_false, cond_false, cond_true] at h3
        have u1 : IntKind.wrap .u64 xk = xk := wrap_u64 (by omega) (by omega)
        have u2 : IntKind.wrap .u64 ((l.map Ins.row).length : Int) = (l.length : Int) := by rw [List.length_map]; exact wrap_u64 (by omega) (by omega)
        have u3 : decide (IntKind.wrap .u64 xk > IntKind.wrap .u64 ((l.map Ins.row).length : Int)) = decide (xk > (l.length : Int)) := by rw [u1, u2]
        cases e4 : decide (xk > (l.length : Int)) with
        | true =>
          rw [e4, cond_true] at h3
          rw [e4] at u3
          refine wR (gI ?_)
          repeat' (first | ((first | refine C_r ?_ | refine O_r ?_); (conv => whnf); first | (refine ⟨fun hb => ?_, fun hb => ?_⟩ <;> try exact no_way) | refine B_o ?_ | refine R_o ?_) | refine X_l ?_ | fail)
          exact rE (ih l.length (n' + 1) m ((l.map Ins.row).length : Int) (IntKind.wrap .i64 (n' + 1)) (by rw [List.length_map]) hw1 h3 (by omega) (by omega) (by omega) hm)
        | false =>
          rw [e4, cond_false] at h3
          rw [e4] at u3
          have e5 := of_decide_eq_false e4
          refine wR (gI ?_)
          repeat' (first | ((first | refine C_r ?_ | refine O_r ?_); (conv => whnf); first | (refine ⟨fun hb => ?_, fun hb => ?_⟩ <;> try exact no_way) | refine B_o ?_ | refine R_o ?_) | refine X_l ?_ | fail)
          have hw3 : IntKind.wrap .i64 (IntKind.wrap .i64 (j + 1) + IntKind.wrap .i64 xk) = ((i + 1 + xk.toNat : Nat) : Int) := by
            rw [hw2, wrap_ok (n := xk) (by omega) (by omega), wrap_ok (by omega) (by omega)]; omega
          exact rE (ih (i + 1 + xk.toNat) (n' + 1) m _ (IntKind.wrap .i64 (n' + 1)) hw3 hw1 h3 (by omega) (by omega) (by omega) hm)
      | false =>
      cases e4 : isJumpF xc with
      | true =>
        rw [e1, e2, e3, e4, cond_false, cond_false, cond_false, cond_true] at h3
        rw [e4] at c1
        have hm' : IntKind.wrap .i64 (IntKind.wrap .i64 (j + 1) + xt) = (i : Int) + 1 + xt ∨ (l.length : Int) < xt := by
          by_cases h : xt ≤ l.length
          · exact .inl (by rw [hw2, wrap_okz (by omega) (by omega)]; omega)
          · exact .inr (by omega)
        have hm'' : IntKind.wrap .i64 (IntKind.wrap .i64 (j + 1) + xf) = (i : Int) + 1 + xf ∨ (l.length : Int) < xf := by
          by_cases h : xf ≤ l.length
          · exact .inl (by rw [hw2, wrap_okz (by omega) (by omega)]; omega)
          · exact .inr (by omega)
        cases e5 : jumpsF xc m.a (withF m xc xk) with
        | true =>
          rw [e5, cond_true] at h3
          rw [e5] at c4
          have hlm : (((l.map Ins.row).length : Nat) : Int) = (l.length : Int) := by rw [List.length_map]
          have hfour : (xt < 0 ∧ (i : Int) + 1 + xt < 0) ∨ (xt < 0 ∧ ¬ (i : Int) + 1 + xt < 0) ∨ (¬ xt < 0 ∧ xt > (l.length : Int)) ∨ (¬ xt < 0 ∧ ¬ xt > (l.length : Int)) := by omega
          rcases hfour with ⟨q1, q2⟩ | ⟨q1, q2⟩ | ⟨q1, q2⟩ | ⟨q1, q2⟩
          · have d1 : decide (xt < 0) = true := by simp; omega
            have d2 : decide (IntKind.wrap .i64 (IntKind.wrap .i64 (j + 1) + xt) < 0) = true := by simp; omega
            have hL : leapF l.length i xt = l.length := by unfold leapF; rw [decide_eq_true q1, decide_eq_true q2]; rfl
            rw [hL] at h3
            refine wR (gI ?_)
            repeat' (first | ((first | refine C_r ?_ | refine O_r ?_ | refine R_r ?_); (conv => whnf); first | (refine ⟨fun hb => ?_, fun hb => ?_⟩ <;> try exact no_way) | refine B_o ?_ | refine C_o ?_ | refine R_o ?_) | refine C_l (c1) ?_ | refine X_l ?_ | refine C_d (c4) ?_ | refine fun k => DL.crQ [1] _ _ c5 (oD ?_ _) ⟨rfl, trivial⟩ rfl | fail)
            exact rE (ih l.length (n' + 1) m ((l.map Ins.row).length : Int) (IntKind.wrap .i64 (n' + 1)) (by rw [List.length_map]) hw1 h3 (by omega) (by omega) (by omega) hm)
          · have d1 : decide (xt < 0) = true := by simp; omega
            have d2 : decide (IntKind.wrap .i64 (IntKind.wrap .i64 (j + 1) + xt) < 0) = false := by simp; omega
            have d3 : decide (xt > ((l.map Ins.row).length : Int)) = false := by rw [hlm]; simp; omega
            have hL : leapF l.length i xt = ((i : Int) + 1 + xt).toNat := by unfold leapF; rw [decide_eq_true q1, decide_eq_false q2, decide_eq_false (show ¬ xt > (l.length : Int) by omega)]; rfl
            rw [hL] at h3
            refine wR (gI ?_)
            repeat' (first | ((first | refine C_r ?_ | refine O_r ?_ | refine R_r ?_); (conv => whnf); first | (refine ⟨fun hb => ?_, fun hb => ?_⟩ <;> try exact no_way) | refine B_o ?_ | refine C_o ?_ | refine R_o ?_) | refine C_l (c1) ?_ | refine X_l ?_ | refine C_d (c4) ?_ | refine fun k => DL.crQ [1] _ _ c5 (oD ?_ _) ⟨rfl, trivial⟩ rfl | fail)
            exact rE (ih ((i : Int) + 1 + xt).toNat (n' + 1) m (IntKind.wrap .i64 (IntKind.wrap .i64 (j + 1) + xt)) (IntKind.wrap .i64 (n' + 1)) (by omega) hw1 h3 (by omega) (by omega) (by omega) hm)
          · have d1 : decide (xt < 0) = false := by simp; omega
            have d3 : decide (xt > ((l.map Ins.row).length : Int)) = true := by rw [hlm]; simp; omega
            have hL : leapF l.length i xt = l.length := by unfold leapF; rw [decide_eq_false q1, decide_eq_true q2]; rfl
            rw [hL] at h3
            refine wR (gI ?_)
            repeat' (first | ((first | refine C_r ?_ | refine O_r ?_ | refine R_r ?_); (conv => whnf); first | (refine ⟨fun hb => ?_, fun hb => ?_⟩ <;> try exact no_way) | refine B_o ?_ | refine C_o ?_ | refine R_o ?_) | refine C_l (c1) ?_ | refine X_l ?_ | refine C_d (c4) ?_ | refine fun k => DL.crQ [1] _ _ c5 (oD ?_ _) ⟨rfl, trivial⟩ rfl | fail)
            exact rE (ih l.length (n' + 1) m ((l.map Ins.row).length : Int) (IntKind.wrap .i64 (n' + 1)) (by rw [List.length_map]) hw1 h3 (by omega) (by omega) (by omega) hm)
          · have d1 : decide (xt < 0) = false := by simp; omega
            have d3 : decide (xt > ((l.map Ins.row).length : Int)) = false := by rw [hlm]; simp; omega
            have hL : leapF l.length i xt = ((i : Int) + 1 + xt).toNat := by unfold leapF; rw [decide_eq_false q1, decide_eq_false q2]; rfl
            rw [hL] at h3
            refine wR (gI ?_)
            repeat' (first | ((first | refine C_r ?_ | refine O_r ?_ | refine R_r ?_); (conv => whnf); first | (refine ⟨fun hb => ?_, fun hb => ?_⟩ <;> try exact no_way) | refine B_o ?_ | refine C_o ?_ | refine R_o ?_) | refine C_l (c1) ?_ | refine X_l ?_ | refine C_d (c4) ?_ | refine fun k => DL.crQ [1] _ _ c5 (oD ?_ _) ⟨rfl, trivial⟩ rfl | fail)
            exact rE (ih ((i : Int) + 1 + xt).toNat (n' + 1) m (IntKind.wrap .i64 (IntKind.wrap .i64 (j + 1) + xt)) (IntKind.wrap .i64 (n' + 1)) (by omega) hw1 h3 (by omega) (by omega) (by omega) hm)
        | false =>
          rw [e5, cond_false] at h3
          rw [e5] at c4
          have hlm : (((l.map Ins.row).length : Nat) : Int) = (l.length : Int) := by rw [List.length_map]
          have hfour : (xf < 0 ∧ (i : Int) + 1 + xf < 0) ∨ (xf < 0 ∧ ¬ (i : Int) + 1 + xf < 0) ∨ (¬ xf < 0 ∧ xf > (l.length : Int)) ∨ (¬ xf < 0 ∧ ¬ xf > (l.length : Int)) := by omega
          rcases hfour with ⟨q1, q2⟩ | ⟨q1, q2⟩ | ⟨q1, q2⟩ | ⟨q1, q2⟩
          · have d1 : decide (xf < 0) = true := by simp; omega
            have d2 : decide (IntKind.wrap .i64 (IntKind.wrap .i64 (j + 1) + xf) < 0) = true := by simp; omega
            have hL : leapF l.length i xf = l.length := by unfold leapF; rw [decide_eq_true q1, decide_eq_true q2]; rfl
            rw [hL] at h3
            refine wR (gI ?_)
            repeat' (first | ((first | refine C_r ?_ | refine O_r ?_ | refine R_r ?_); (conv => whnf); first | (refine ⟨fun hb => ?_, fun hb => ?_⟩ <;> try exact no_way) | refine B_o ?_ | refine C_o ?_ | refine R_o ?_) | refine C_l (c1) ?_ | refine X_l ?_ | refine C_d (c4) ?_ | refine fun k => DL.crQ [1] _ _ c5 (oD ?_ _) ⟨rfl, trivial⟩ rfl | fail)
            exact rE (ih l.length (n' + 1) m ((l.map Ins.row).length : Int) (IntKind.wrap .i64 (n' + 1)) (by rw [List.length_map]) hw1 h3 (by omega) (by omega) (by omega) hm)
          · have d1 : decide (xf < 0) = true := by simp; omega
            have d2 : decide (IntKind.wrap .i64 (IntKind.wrap .i64 (j + 1) + xf) < 0) = false := by simp; omega
            have d3 : decide (xf > ((l.map Ins.row).length : Int)) = false := by rw [hlm]; simp; omega
            have hL : leapF l.length i xf = ((i : Int) + 1 + xf).toNat := by unfold leapF; rw [decide_eq_true q1, decide_eq_false q2, decide_eq_false (show ¬ xf > (l.length : Int) by omega)]; rfl
            rw [hL] at h3
            refine wR (gI ?_)
            repeat' (first | ((first | refine C_r ?_ | refine O_r ?_ | refine R_r ?_); (conv => whnf); first | (refine ⟨fun hb => ?_, fun hb => ?_⟩ <;> try exact no_way) | refine B_o ?_ | refine C_o ?_ | refine R_o ?_) | refine C_l (c1) ?_ | refine X_l ?_ | refine C_d (c4) ?_ | refine fun k => DL.crQ [1] _ _ c5 (oD ?_ _) ⟨rfl, trivial⟩ rfl | fail)
            exact rE (ih ((i : Int) + 1 + xf).toNat (n' + 1) m (IntKind.wrap .i64 (IntKind.wrap .i64 (j + 1) + xf)) (IntKind.wrap .i64 (n' + 1)) (by omega) hw1 h3 (by omega) (by omega) (by omega) hm)
          · have d1 : decide (xf < 0) = false := by simp; omega
            have d3 : decide (xf > ((l.map Ins.row).length : Int)) = true := by rw [hlm]; simp; omega
            have hL : leapF l.length i xf = l.length := by unfold leapF; rw [decide_eq_false q1, decide_eq_true q2]; rfl
            rw [hL] at h3
            refine wR (gI ?_)
            repeat' (first | ((first | refine C_r ?_ | refine O_r ?_ | refine R_r ?_); (conv => whnf); first | (refine ⟨fun hb => ?_, fun hb => ?_⟩ <;> try exact no_way) | refine B_o ?_ | refine C_o ?_ | refine R_o ?_) | refine C_l (c1) ?_ | refine X_l ?_ | refine C_d (c4) ?_ | refine fun k => DL.crQ [1] _ _ c5 (oD ?_ _) ⟨rfl, trivial⟩ rfl | fail)
            exact rE (ih l.length (n' + 1) m ((l.map Ins.row).length : Int) (IntKind.wrap .i64 (n' + 1)) (by rw [List.length_map]) hw1 h3 (by omega) (by omega) (by omega) hm)
          · have d1 : decide (xf < 0) = false := by simp; omega
            have d3 : decide (xf > ((l.map Ins.row).length : Int)) = false := by rw [hlm]; simp; omega
            have hL : leapF l.length i xf = ((i : Int) + 1 + xf).toNat := by unfold leapF; rw [decide_eq_false q1, decide_eq_false q2]; rfl
            rw [hL] at h3
            refine wR (gI ?_)
            repeat' (first | ((first | refine C_r ?_ | refine O_r ?_ | refine R_r ?_); (conv => whnf); first | (refine ⟨fun hb => ?_, fun hb => ?_⟩ <;> try exact no_way) | refine B_o ?_ | refine C_o ?_ | refine R_o ?_) | refine C_l (c1) ?_ | refine X_l ?_ | refine C_d (c4) ?_ | refine fun k => DL.crQ [1] _ _ c5 (oD ?_ _) ⟨rfl, trivial⟩ rfl | fail)
            exact rE (ih ((i : Int) + 1 + xf).toNat (n' + 1) m (IntKind.wrap .i64 (IntKind.wrap .i64 (j + 1) + xf)) (IntKind.wrap .i64 (n' + 1)) (by omega) hw1 h3 (by omega) (by omega) (by omega) hm)
      | false =>
        rw [e1, e2, e3, e4, cond_false, cond_false, cond_false, cond_false] at h3
        rw [e4] at c1
        generalize plainF m xc xk ⟨nr, ar, ip, a0, a1, a2, a3, a4, a5⟩ = p at *
        obtain ⟨m', b1, b2⟩ := p
        simp only at h3 c6 c7
        refine wR (gI ?_)
        repeat' (first | ((first | refine C_r ?_ | refine O_r ?_); (conv => whnf); first | (refine ⟨fun hb => ?_, fun hb => ?_⟩ <;> try exact no_way) | refine B_o ?_ | refine R_o ?_ | refine fR ?_) | refine C_l (c1) ?_ | refine fun k => WL.cr' [1] _ _ c6 rfl rfl rfl rfl rfl ⟨rfl, trivial⟩ rfl rfl rfl rfl (oW ?_ _) | refine X_l ?_ | fail)
        · have hb1 : b1 = true := by assumption
          have hb2 : b2 = true := by assumption
          subst hb1; subst hb2
          exact ⟨by rw [h3, hw1]; rfl, rfl⟩
        · have hb1 : b1 = true := by assumption
          have hb2 : b2 = false := by assumption
          subst hb1; subst hb2
          exact rE (ih (i + 1) (n' + 1) m' _ _ hw2 hw1 h3 (by omega) (by omega) (by omega) c7)
        · have hb1 : b1 = false := by assumption
          have hb2 : b2 = true := by assumption
          subst hb1; subst hb2
          exact ⟨by rw [h3, hw1]; rfl, rfl⟩
        · have hb1 : b1 = false := by assumption
          have hb2 : b2 = false := by assumption
          subst hb1; subst hb2
          exact ⟨by rw [h3]; rfl, rfl⟩
end Go.Proofs.Ytcplpllbinilmaa
