/- The reference's machine: a step. -/
import Derived.Test.YtcplpllbinilmaaLab4
set_option linter.unusedVariables false
set_option linter.unusedSimpArgs false
namespace Go.Proofs.Ytcplpllbinilmaa
open Go Go.Am Go.Proofs
attribute [local irreducible] W WL DL WO RoundEnd
set_option maxRecDepth 10000
set_option maxHeartbeats 4000000
set_option linter.unusedVariables false
set_option linter.unusedSimpArgs false
def wordF (d : Dat) (off : Int) : Int × Bool := bif !(off.tmod 4 == 0) || decide (off > 60) then (0, false) else (IntKind.wrap .u32 (getF d.bytes off.toNat 4 0), true)
theorem wordR (d : Dat) (off : Int) (hd : d.ok) (h0 : 0 ≤ off) (h1 : off < 2 ^ 32) : Comp Try.prog 54 [.agg (d.row.map .d), int .u32 off] (.tup [.one (.d (.sc (.int .u32 (wordF d off).1))), .one (.d (.sc (.bool (wordF d off).2)))]) := by
  have c1 := dataBytesR d hd
  have hbl := bytes_len d
  generalize hw : wordF d off = w
  unfold wordF at hw
  obtain ⟨nr, ar, ip, a0, a1, a2, a3, a4, a5⟩ := d
  by_cases h : off ≤ 60
  · have hwo : IntKind.wrap .i64 off = ((off.toNat : Nat) : Int) := by rw [wrap_ok (by omega) (by omega)]; omega
    have c2 := getR (Dat.bytes ⟨nr, ar, ip, a0, a1, a2, a3, a4, a5⟩) off.toNat 4 (by omega) (by omega) (by omega)
    rw [← hwo] at c2
    refine Spec.body (C := cx [] 19) fits (fn := Try.f54) Try.func54 rfl (by decide) (by decide) (gI ?_)
    repeat' (first | ((first | refine C_r ?_ | refine O_r ?_); (conv => whnf); first | (refine ⟨fun hb => ?_, fun hb => ?_⟩ <;> try exact no_way) | refine B_o ?_ | refine fR ?_) | refine C_l (c1) ?_ | refine C_l (c2) ?_ | fail)
    all_goals (rw [← hw]; simp only [*, Bool.not_true, Bool.not_false, Bool.or_true, Bool.true_or, Bool.or_false, Bool.false_or, cond_true, cond_false, and_self])
  · have b1 : decide (off > 60) = true := decide_eq_true (by omega)
    refine Spec.body (C := cx [] 19) fits (fn := Try.f54) Try.func54 rfl (by decide) (by decide) (gI ?_)
    repeat' (first | ((first | refine C_r ?_ | refine O_r ?_); (conv => whnf); first | (refine ⟨fun hb => ?_, fun hb => ?_⟩ <;> try exact no_way) | refine fR ?_) | fail)
    all_goals (rw [← hw]; simp only [*, Bool.not_true, Bool.not_false, Bool.or_true, Bool.true_or, Bool.or_false, Bool.false_or, cond_true, cond_false, and_self])
def isAluF (c : Int) : Bool := c == 4 || c == 12 || c == 20 || c == 28 || c == 36 || c == 44 || c == 52 || c == 60 || c == 68 || c == 76 || c == 84 || c == 92 || c == 164 || c == 172 || c == 100 || c == 108 || c == 116 || c == 124
theorem isAluR (c : Int) : Comp Try.prog 52 [int .i64 c] (bool (isAluF c)) := by
  refine Spec.body (C := cx [] 23) fits (fn := Try.f52) Try.func52 rfl (by decide) (by decide) (gI ?_)
  repeat' (first | ((first | refine C_r ?_ | refine O_r ?_); (conv => whnf); first | (refine ⟨fun hb => ?_, fun hb => ?_⟩ <;> try exact no_way) | refine fR ?_) | fail)
  all_goals exact ⟨by simp_all [isAluF, Am.bool], rfl⟩
def andF (a b : Int) : Int := IntKind.wrap .u32 ↑(BitVec.ofInt IntKind.u32.bits a &&& BitVec.ofInt IntKind.u32.bits b).toNat
def aluF (c a b : Int) : Int :=
  bif c == 4 || c == 12 then IntKind.wrap .u32 (a + b) else
  bif c == 20 || c == 28 then IntKind.wrap .u32 (a - b) else
  bif c == 36 || c == 44 then IntKind.wrap .u32 (a * b) else
  bif c == 52 || c == 60 then IntKind.wrap .u32 (a.tdiv b) else
  bif c == 68 || c == 76 then IntKind.wrap .u32 ↑(BitVec.ofInt IntKind.u32.bits a ||| BitVec.ofInt IntKind.u32.bits b).toNat else
  bif c == 84 || c == 92 then andF a b else
  bif c == 164 || c == 172 then IntKind.wrap .u32 ↑(BitVec.ofInt IntKind.u32.bits a ^^^ BitVec.ofInt IntKind.u32.bits b).toNat else
  bif c == 100 || c == 108 then IntKind.wrap .u32 (a * 2 ^ min (b.tmod 32).toNat IntKind.u32.bits) else
  a.fdiv (2 ^ min (b.tmod 32).toNat IntKind.u32.bits)
theorem aluR (c a b : Int) (h0 : 0 ≤ b) (hz : c == 52 || c == 60 → b ≠ 0) : Comp Try.prog 53 [int .i64 c, int .u32 a, int .u32 b] (int .u32 (aluF c a b)) := by
  have hm : ¬ b.tmod 32 < 0 := by
    have := Int.tmod_nonneg 32 h0
    omega
  by_cases hd : (c == 52 || c == 60) = true
  · have hb0 := hz hd
    have n0 : (c == 4) = false ∧ (c == 12) = false ∧ (c == 20) = false ∧ (c == 28) = false ∧ (c == 36) = false ∧ (c == 44) = false := by
      simp at hd ⊢; omega
    obtain ⟨n1, n2, n3, n4, n5, n6⟩ := n0
    refine Spec.body (C := cx [] 61) fits (fn := Try.f53) Try.func53 rfl (by decide) (by decide) (gI ?_)
    repeat' (first | ((first | refine C_r ?_ | refine O_r ?_); (conv => whnf); first | (refine ⟨fun hb => ?_, fun hb => ?_⟩ <;> try exact no_way) | refine B_o ?_ | refine fR ?_) | refine V_l ?_ | fail)
    all_goals first
      | exact ⟨by simp only [aluF, *, Bool.or_true, Bool.true_or, Bool.or_false, Bool.or_self, cond_true, cond_false]; rfl, rfl⟩
      | (exfalso; simp_all)
  · have n0 : (c == 52) = false ∧ (c == 60) = false := by simpa using hd
    obtain ⟨n1, n2⟩ := n0
    clear hz hd
    refine Spec.body (C := cx [] 61) fits (fn := Try.f53) Try.func53 rfl (by decide) (by decide) (gI ?_)
    repeat' (first | ((first | refine C_r ?_ | refine O_r ?_); (conv => whnf); first | (refine ⟨fun hb => ?_, fun hb => ?_⟩ <;> try exact no_way) | refine B_o ?_ | refine fR ?_) | refine V_l ?_ | fail)
    all_goals exact ⟨by simp only [aluF, andF, *, Bool.or_true, Bool.true_or, Bool.or_false, Bool.or_self, cond_true, cond_false]; rfl, rfl⟩
def jumpsF (c a b : Int) : Bool :=
  bif c == 21 || c == 29 then a == b else
  bif c == 37 || c == 45 then decide (a > b) else
  bif c == 53 || c == 61 then decide (a ≥ b) else
  !(andF a b == 0)
theorem jumpsRef (c a b : Int) : Comp Try.prog 30 [int .i64 c, int .u32 a, int .u32 b] (bool (jumpsF c a b)) := by
  refine Spec.body (C := cx [] 30) fits (fn := Try.f30) Try.func30 rfl (by decide) (by decide) (gI ?_)
  repeat' (first | ((first | refine C_r ?_ | refine O_r ?_); (conv => whnf); first | (refine ⟨fun hb => ?_, fun hb => ?_⟩ <;> try exact no_way) | refine fR ?_) | fail)
  all_goals first
    | exact ⟨by simp only [jumpsF, andF, *, Bool.or_true, Bool.true_or, Bool.or_false, Bool.or_self, cond_true, cond_false, Bool.not_true, Bool.not_false]; rfl, rfl⟩
    | trace_state
/-- a machine -/
structure Mach where
  a : Int
  x : Int
  c : Nat → Int
def w32 (n : Int) : Cell := .d (.sc (.int .u32 n))
def Mach.cells (m : Mach) : List Cell := [w32 m.a, w32 m.x, w32 (m.c 0), w32 (m.c 1), w32 (m.c 2), w32 (m.c 3), w32 (m.c 4), w32 (m.c 5), w32 (m.c 6), w32 (m.c 7), w32 (m.c 8), w32 (m.c 9), w32 (m.c 10), w32 (m.c 11), w32 (m.c 12), w32 (m.c 13), w32 (m.c 14), w32 (m.c 15)]
def x8 (c : Int) : Bool := !(IntKind.wrap .i64 ↑(BitVec.ofInt IntKind.i64.bits c &&& BitVec.ofInt IntKind.i64.bits 8).toNat == 0)
def withF (m : Mach) (c k : Int) : Int := bif x8 c then m.x else k
theorem withR (m : Mach) (c k : Int) : Am.Spec Try.prog 31 [.one (.ptr 0 0), int .i64 c, int .u32 k] [.var m.cells] (fun v σ => v = int .u32 (withF m c k) ∧ σ = [.var m.cells]) := by
  refine Spec.body (C := cx [] 15) fits (fn := Try.f31) Try.func31 rfl (by decide) (by decide) (gI ?_)
  repeat' (first | ((first | refine C_r ?_ | refine O_r ?_); (conv => whnf); first | (refine ⟨fun hb => ?_, fun hb => ?_⟩ <;> try exact no_way) | refine fR ?_) | fail)
  all_goals first
    | exact ⟨by simp only [withF, x8, *, cond_true, cond_false, Bool.not_true, Bool.not_false]; rfl, rfl⟩
    | trace_state
end Go.Proofs.Ytcplpllbinilmaa
