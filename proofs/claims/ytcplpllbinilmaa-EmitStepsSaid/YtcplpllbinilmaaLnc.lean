/- What the instructions of a row cost: a jump two, any other symbol one. -/
import Derived.Test.YtcplpllbinilmaaLabp3
set_option linter.unusedVariables false
set_option linter.unusedSimpArgs false
namespace Go.Proofs.Ytcplpllbinilmaa
open Go Go.Am Go.Proofs
set_option maxRecDepth 10000
set_option maxHeartbeats 4000000
set_option linter.unusedVariables false
set_option linter.unusedSimpArgs false
def costS (l : List Sym) (d : Dat) : Nat → Nat → Mach → Nat
  | 0, _, _ => 0
  | n + 1, i, m => match l[i]? with
    | none => 1
    | some x =>
      bif x.code == 6 then 1
      else bif x.code == 22 then 1
      else bif x.code == 5 then 1 + costS l d n (nextF l i x.t).toNat m
      else bif isJumpF x.code then
        bif jumpsF x.code m.a (withF m x.code x.k) then 2 + costS l d n (nextF l i x.t).toNat m else 2 + costS l d n (nextF l i x.f).toNat m
      else bif (plainF m x.code x.k d).2.2 then 1
      else bif !(plainF m x.code x.k d).2.1 then 1
      else 1 + costS l d n (i + 1) (plainF m x.code x.k d).1
theorem run_le (l : List Ins) (d : Dat) : ∀ (F : Nat) (n : Int) (i : Nat) (m : Mach), (runF l d F n i m).2.2 = true → (runF l d F n i m).2.1 ≤ n + F ∧ ∀ e : Nat, runF l d (F + e) n i m = runF l d F n i m
  | 0, n, i, m, h => by cases h
  | F + 1, n, i, m, h => by
    have ih := run_le l d F
    have hs : ∀ e : Nat, F + 1 + e = (F + e) + 1 := fun e => by omega
    revert h
    simp only [hs, runF]
    cases l[i]? with
    | none => intro h; exact (Bool.false_ne_true h).elim
    | some x =>
      dsimp only
      cases x.code == 6 with
      | true => intro h; exact ⟨by show n + 1 ≤ _; omega, fun _ => rfl⟩
      | false =>
      cases x.code == 22 with
      | true => intro h; exact ⟨by show n + 1 ≤ _; omega, fun _ => rfl⟩
      | false =>
      cases x.code == 5 with
      | true =>
        simp only [cond_true, cond_false]
        cases decide (x.k > (l.length : Int)) with
        | true => simp only [cond_true]; intro h; have := ih _ _ _ h; exact ⟨by omega, this.2⟩
        | false => simp only [cond_false]; intro h; have := ih _ _ _ h; exact ⟨by omega, this.2⟩
      | false =>
      cases isJumpF x.code with
      | true => simp only [cond_true, cond_false]; intro h; have := ih _ _ _ h; exact ⟨by omega, this.2⟩
      | false =>
      cases (plainF m x.code x.k d).2.2 with
      | true => intro h; exact ⟨by show n + 1 ≤ _; omega, fun _ => rfl⟩
      | false =>
      cases (plainF m x.code x.k d).2.1 with
      | false => intro h; exact (Bool.false_ne_true h).elim
      | true => simp only [Bool.not_true, cond_false]; intro h; have := ih _ _ _ h; exact ⟨by omega, this.2⟩
/-- what is linked runs as the symbols do, with as much fuel as these cost -/
theorem link_cost {l : List Sym} {m : LM} {fa : List (Bool × Bool)} (h : FinP l m fa) (hL : sumC fa < 4294967296) (d : Dat) : ∀ (c G F i : Nat) (n : Int) (mach : Mach), l.length - i ≤ c → i < l.length → l.length - i < G → costS l d G i mach ≤ F →
    (runF (outL l m fa) d F n (posN fa i) mach).1 = (runSyms l d G i mach).1 ∧ (runF (outL l m fa) d F n (posN fa i) mach).2.2 = (runSyms l d G i mach).2
  | 0, G, F, i, n, mach, h1, h2, _, _ => by omega
  | c + 1, 0, F, i, n, mach, h1, h2, h3, _ => by omega
  | c + 1, G + 1, F, i, n, mach, h1, h2, h3, h4 => by
    obtain ⟨x, hx⟩ : ∃ x, l[i]? = some x := ⟨l[i], List.getElem?_eq_getElem h2⟩
    have hle := h.len
    have ih := fun F j n mach (g1 : i < j) (g2 : j < l.length) (g3 : costS l d G j mach ≤ F) => link_cost h hL d c G F j n mach (by omega) g2 (by omega) g3
    rw [costS, hx] at h4
    dsimp only at h4
    rw [runSyms, hx]
    simp only
    cases hj : isJumpF x.code with
    | true =>
      obtain ⟨e1, e2, e3, e4⟩ := jump_ends hj
      obtain ⟨g1, g2⟩ := next_lt h.right hx hj
      simp only [e2, e3, e4, hj, cond_false, cond_true] at h4
      have h2F : 2 ≤ F := by revert h4; cases jumpsF x.code mach.a (withF mach x.code x.k) <;> simp only [cond_true, cond_false] <;> omega
      obtain ⟨F, rfl⟩ : ∃ F', F = F' + 2 := ⟨F - 2, by omega⟩
      obtain ⟨F', n', hF, hrun⟩ := jump_sim h hL hx hj d F n mach
      rw [hrun]
      simp only [e2, e3, e4, cond_false, cond_true]
      revert h4
      cases jumpsF x.code mach.a (withF mach x.code x.k) with
      | true => simp only [cond_true]; intro h4; exact ih F' _ n' mach (by omega) (by omega) (by omega)
      | false => simp only [cond_false]; intro h4; exact ih F' _ n' mach (by omega) (by omega) (by omega)
    | false =>
    have hs := getI_pos (fa := fa) (n := i) (by omega)
    have hat := fun k hk => out_at m (layF 0 fa) h.still h.len hx (k := k) hk
    have b3 := (sumC_take fa i).1
    cases h5 : x.code == 5 with
    | true =>
      have h5' : x.code = 5 := by simpa using h5
      simp only [h5, show (x.code == 6) = false from by rw [h5']; rfl, show (x.code == 22) = false from by rw [h5']; rfl, cond_false, cond_true] at h4
      obtain ⟨F, rfl⟩ : ∃ F', F = F' + 1 := ⟨F - 1, by omega⟩
      have g1 := ja_goes h.right hx h5'
      have ht := tgt_t h hx (.inr h5') g1
      have m1 := sumC_mono (fa := fa) (i := i) (j := (nextF l i x.t).toNat) (by omega) (by omega)
      have hcnt := (cnt_ge (getB fa i)).1
      have b1 := (sumC_take fa (nextF l i x.t).toNat).2
      have hlen := outL_len h
      have hins : insF m (layF 0 fa) fa i x = [⟨5, 0, 0, IntKind.wrap .u32 (sumC (fa.take (nextF l i x.t).toNat) - sumC (fa.take i) - 1)⟩] := by
        unfold insF
        rw [hj, h5, hs, ht]; rfl
      rw [hins] at hat
      have h0 : (outL l m fa)[posN fa i]? = some ⟨5, 0, 0, IntKind.wrap .u32 (sumC (fa.take (nextF l i x.t).toNat) - sumC (fa.take i) - 1)⟩ := by
        have := hat 0 (by simp)
        rw [Nat.add_zero] at this; rw [this]; rfl
      rw [run_ja h0 (by omega) (by omega) (by omega)]
      simp only [show (x.code == 6) = false from by rw [h5']; rfl, show (x.code == 22) = false from by rw [h5']; rfl, cond_false, cond_true]
      have e : posN fa i + 1 + (sumC (fa.take (nextF l i x.t).toNat) - sumC (fa.take i) - 1).toNat = posN fa (nextF l i x.t).toNat := by
        show (sumC (fa.take i)).toNat + 1 + _ = (sumC (fa.take (nextF l i x.t).toNat)).toNat
        omega
      rw [e]
      exact ih F _ (n + 1) mach (by omega) (by omega) (by omega)
    | false =>
      have hins : insF m (layF 0 fa) fa i x = [⟨x.code, 0, 0, x.k⟩] := by
        unfold insF
        rw [hj, h5]; rfl
      rw [hins] at hat
      have h0 : (outL l m fa)[posN fa i]? = some ⟨x.code, 0, 0, x.k⟩ := by
        have := hat 0 (by simp)
        rw [Nat.add_zero] at this; rw [this]; rfl
      have h1F : 1 ≤ F := by
        revert h4
        cases x.code == 6 <;> cases x.code == 22 <;> cases (plainF mach x.code x.k d).2.2 <;> cases (plainF mach x.code x.k d).2.1 <;> simp only [hj, h5, cond_true, cond_false, Bool.not_true, Bool.not_false] <;> omega
      obtain ⟨F, rfl⟩ : ∃ F', F = F' + 1 := ⟨F - 1, by omega⟩
      rw [runF, h0]
      simp only [hj, h5, cond_false] at h4 ⊢
      revert h4
      cases h6 : x.code == 6 with
      | true => intro _; exact ⟨rfl, rfl⟩
      | false =>
      cases h22 : x.code == 22 with
      | true => intro _; exact ⟨rfl, rfl⟩
      | false =>
      simp only [cond_false]
      have hl := last_ends h.right hx (ends_no h6 h22)
      cases (plainF mach x.code x.k d).2.2 with
      | true => intro _; exact ⟨rfl, rfl⟩
      | false =>
      simp only [cond_false]
      cases (plainF mach x.code x.k d).2.1 with
      | false => intro _; exact ⟨rfl, rfl⟩
      | true =>
        simp only [Bool.not_true, cond_false]
        intro h4
        have hcnt : cntF (getB fa i) = 1 := by rw [h.still i x hx hj]; rfl
        have hp : fa[i]? = some fa[i] := List.getElem?_eq_getElem (by omega)
        have hg : getB fa i = fa[i] := by unfold getB; rw [hp]; rfl
        have e : posN fa i + 1 = posN fa (i + 1) := by
          show (sumC (fa.take i)).toNat + 1 = (sumC (fa.take (i + 1))).toNat
          rw [List.take_add_one, hp]
          simp only [Option.toList_some]
          rw [sumC_snoc, ← hg, hcnt]; omega
        rw [e]
        exact ih F (i + 1) (n + 1) _ (by omega) hl (by omega)
end Go.Proofs.Ytcplpllbinilmaa
