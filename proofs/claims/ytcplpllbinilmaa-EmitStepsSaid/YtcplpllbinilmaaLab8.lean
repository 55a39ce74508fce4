/- A part of a proof: functions of the program, walked over the abstract machine. -/
import Derived.Test.YtcplpllbinilmaaLab7
set_option linter.unusedVariables false
set_option linter.unusedSimpArgs false
namespace Go.Proofs.Ytcplpllbinilmaa
open Go Go.Am Go.Proofs
attribute [local irreducible] W WL DL WO RoundEnd
set_option maxRecDepth 10000
set_option maxHeartbeats 4000000
set_option linter.unusedVariables false
set_option linter.unusedSimpArgs false
/-- how symbols run: so many steps at most -/
def runSyms (l : List Sym) (d : Dat) : Nat → Nat → Mach → Int × Bool
  | 0, _, _ => (0, false)
  | n + 1, i, m => match l[i]? with
    | none => (0, false)
    | some x =>
      bif x.code == 6 then (x.k, true)
      else bif x.code == 22 then (m.a, true)
      else bif x.code == 5 then runSyms l d n (nextF l i x.t).toNat m
      else bif isJumpF x.code then
        bif jumpsF x.code m.a (withF m x.code x.k) then runSyms l d n (nextF l i x.t).toNat m else runSyms l d n (nextF l i x.f).toNat m
      else bif (plainF m x.code x.k d).2.2 then (0, true)
      else bif !(plainF m x.code x.k d).2.1 then (0, false)
      else runSyms l d n (i + 1) (plainF m x.code x.k d).1
def Mach.zero : Mach := ⟨0, 0, fun _ => 0⟩
theorem zero_ok : Mach.zero.ok := ⟨by decide, by decide, fun _ => (by decide : (0 : Int) ≤ 0 ∧ (0 : Int) < 2 ^ 32)⟩
def runV (r : Int × Bool) : V := .tup [.one (.d (.sc (.int .u32 r.1))), .one (.d (.sc (.bool r.2)))]
theorem runSymsR (l : List Sym) (d : Dat) (hl : l.length < 2 ^ 40) (hd : d.ok) (hr : rightF l = true) (hk : ∀ x ∈ l, 0 ≤ x.k ∧ x.k < 2 ^ 32) : Comp Try.prog 14 [lst Sym.row l, .agg (d.row.map .d)] (runV (runSyms l d (l.length + 1) 0 Mach.zero)) := by
  generalize hfb : runSyms l d (l.length + 1) 0 Mach.zero = fb
  have hpl := fun m c k (hm : m.ok) (h : 0 ≤ k ∧ k < 2 ^ 32) => plainR m c k d hm hd h.1 h.2
  unfold PlainS at hpl
  clear hd
  have ez : Mach.zero.cells = [w32 0, w32 0, w32 0, w32 0, w32 0, w32 0, w32 0, w32 0, w32 0, w32 0, w32 0, w32 0, w32 0, w32 0, w32 0, w32 0, w32 0, w32 0] := rfl
  generalize hdr : d.row.map Cell.d = dr at *
  have hdl : dr.length = 9 := by rw [← hdr]; rfl
  have hdd : dr = d.row.map Cell.d := hdr.symm
  obtain ⟨nr, ar, ip, a0, a1, a2, a3, a4, a5⟩ := d
  subst hdd
  refine Spec.body (C := cx [] 86) fits (fn := Try.f14) Try.func14 rfl (by decide) (by decide) (gI ?_)
  repeat' (first | (refine C_r ?_; (conv => whnf); first | refine A_o ?_) | fail)
  refine wLoop [0, 3, 6, 7] 2 (l.length + 1) ?_
  refine (fun key => key (l.length + 1) 0 Mach.zero _ rfl hfb.symm (by omega) (by omega) zero_ok :
    (∀ (n i : Nat) (m : Mach) (j : Int), j = i → fb = runSyms l ⟨nr, ar, ip, a0, a1, a2, a3, a4, a5⟩ n i m → l.length < i + n → i ≤ l.length → m.ok →
    WR2 _ _ _ _ _ n [(0, lst Sym.row l), (3, .one (.ptr 0 0)), (6, .one (.ptr 1 0)), (7, int .i64 j)] [.var ((Dat.row ⟨nr, ar, ip, a0, a1, a2, a3, a4, a5⟩).map .d), .var m.cells]) → _) ?_
  intro n
  induction n with
  | zero => intro i m j h1 h2 h3 h4; omega
  | succ n ih =>
    intro i m j h1 h2 h3 h4 hm
    rw [runSyms] at h2
    rcases hx : l[i]? with _ | x
    · have hi : l.length ≤ i := List.getElem?_eq_none_iff.1 hx
      rw [hx] at h2
      simp only at h2
      refine wR (gI ?_)
      repeat' (first | ((first | refine C_r ?_ | refine O_r ?_); (conv => whnf); first | (refine ⟨fun hb => ?_, fun hb => ?_⟩ <;> try exact no_way) | refine A_o ?_ | refine fR ?_) | fail)
      exact ⟨by rw [h2]; rfl, rfl⟩
    · have hi := (List.getElem?_eq_some_iff.1 hx).1
      have hxk := hk x (List.mem_of_getElem? hx)
      have c1 := isJumpR x.code
      have c2 := nextR l i x.t hl hi
      have c3 := nextR l i x.f hl hi
      have c4 := jumpsRef x.code m.a (withF m x.code x.k)
      have c5 := withR m x.code x.k
      have c6 := hpl m x.code x.k hm hxk
      have c7 := plain_ok m x.code x.k ⟨nr, ar, ip, a0, a1, a2, a3, a4, a5⟩ hm hxk
      have g1 := ja_goes hr hx
      have g2 := jt_goes hr hx
      have g3 := jf_goes hr hx
      rw [hx] at h2
      simp only at h2
      have hro : (l.map Sym.row)[j.toNat]? = some (Sym.row x) := by
        rw [h1, List.getElem?_map]
        show Option.map Sym.row l[i]? = _
        rw [hx]; rfl
      rw [← h1] at c2 c3
      obtain ⟨xl, xt, xf, xc, xk⟩ := x
      simp only at c1 c2 c3 c4 c5 c6 c7 g1 g2 g3 h2
      cases e1 : xc == 6 with
      | true =>
        rw [e1, cond_true] at h2
        refine wR (gI ?_)
        repeat' (first | ((first | refine C_r ?_ | refine O_r ?_); (conv => whnf); first | (refine ⟨fun hb => ?_, fun hb => ?_⟩ <;> try exact no_way) | refine B_o ?_ | refine fR ?_) | refine X_l ?_ | fail)
        exact ⟨by rw [h2]; rfl, rfl⟩
      | false =>
      cases e2 : xc == 22 with
      | true =>
        rw [e1, e2, cond_false, cond_true] at h2
        refine wR (gI ?_)
        repeat' (first | ((first | refine C_r ?_ | refine O_r ?_); (conv => whnf); first | (refine ⟨fun hb => ?_, fun hb => ?_⟩ <;> try exact no_way) | refine B_o ?_ | refine fR ?_) | refine X_l ?_ | fail)
        exact ⟨by rw [h2]; rfl, rfl⟩
      | false =>
      cases e3 : xc == 5 with
      | true =>
        rw [e1, e2, e3, cond_false, cond_false, cond_true] at h2
        have g1' := g1 (by simpa using e3)
        refine wR (gI ?_)
        repeat' (first | ((first | refine C_r ?_ | refine O_r ?_); (conv => whnf); first | (refine ⟨fun hb => ?_, fun hb => ?_⟩ <;> try exact no_way) | refine B_o ?_ | refine R_o ?_) | refine C_l (c2) ?_ | refine X_l ?_ | fail)
        refine rE (ih _ m _ ?_ h2 (by omega) (by omega) hm)
        omega
      | false =>
      cases e4 : isJumpF xc with
      | true =>
        rw [e1, e2, e3, e4, cond_false, cond_false, cond_false, cond_true] at h2
        have g2' := g2 e4
        have g3' := g3 e4
        rw [e4] at c1
        cases e5 : jumpsF xc m.a (withF m xc xk) with
        | true =>
          rw [e5, cond_true] at h2
          rw [e5] at c4
          refine wR (gI ?_)
          repeat' (first | ((first | refine C_r ?_ | refine O_r ?_ | refine R_r ?_); (conv => whnf); first | (refine ⟨fun hb => ?_, fun hb => ?_⟩ <;> try exact no_way) | refine B_o ?_ | refine C_o ?_ | refine R_o ?_) | refine C_l (c1) ?_ | refine C_l (c2) ?_ | refine X_l ?_ | refine C_d (c4) ?_ | refine fun k => DL.crQ [1] _ _ c5 (oD ?_ _) ⟨rfl, trivial⟩ rfl | fail)
          refine rE (ih _ m _ ?_ h2 (by omega) (by omega) hm)
          omega
        | false =>
          rw [e5, cond_false] at h2
          rw [e5] at c4
          refine wR (gI ?_)
          repeat' (first | ((first | refine C_r ?_ | refine O_r ?_ | refine R_r ?_); (conv => whnf); first | (refine ⟨fun hb => ?_, fun hb => ?_⟩ <;> try exact no_way) | refine B_o ?_ | refine C_o ?_ | refine R_o ?_) | refine C_l (c1) ?_ | refine C_l (c3) ?_ | refine X_l ?_ | refine C_d (c4) ?_ | refine fun k => DL.crQ [1] _ _ c5 (oD ?_ _) ⟨rfl, trivial⟩ rfl | fail)
          refine rE (ih _ m _ ?_ h2 (by omega) (by omega) hm)
          omega
      | false =>
        rw [e1, e2, e3, e4, cond_false, cond_false, cond_false, cond_false] at h2
        rw [e4] at c1
        generalize plainF m xc xk ⟨nr, ar, ip, a0, a1, a2, a3, a4, a5⟩ = p at *
        obtain ⟨m', b1, b2⟩ := p
        simp only at h2 c6 c7
        refine wR (gI ?_)
        repeat' (first | ((first | refine C_r ?_ | refine O_r ?_); (conv => whnf); first | (refine ⟨fun hb => ?_, fun hb => ?_⟩ <;> try exact no_way) | refine B_o ?_ | refine R_o ?_ | refine fR ?_) | refine C_l (c1) ?_ | refine fun k => WL.cr' [1] _ _ c6 rfl rfl rfl rfl rfl ⟨rfl, trivial⟩ rfl rfl rfl rfl (oW ?_ _) | refine X_l ?_ | fail)
        all_goals first
          | (refine rE (ih (i + 1) m' _ ?_ ?_ (by omega) (by omega) c7)
             · rw [wrap_ok (by omega) (by omega), h1]; rfl
             · rw [h2]; simp only [*, cond_true, cond_false, Bool.not_true, Bool.not_false])
          | (refine ⟨?_, rfl⟩
             rw [h2]; simp only [*, cond_true, cond_false, Bool.not_true, Bool.not_false]; rfl)
end Go.Proofs.Ytcplpllbinilmaa
