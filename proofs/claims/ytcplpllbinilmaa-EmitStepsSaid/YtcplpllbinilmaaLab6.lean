/- A part of a proof: functions of the program, walked over the abstract machine. -/
import Derived.Test.YtcplpllbinilmaaLab5
set_option linter.unusedVariables false
set_option linter.unusedSimpArgs false
namespace Go.Proofs.Ytcplpllbinilmaa
open Go Go.Am Go.Proofs
attribute [local irreducible] W WL DL WO RoundEnd
set_option maxRecDepth 10000
set_option maxHeartbeats 4000000
set_option linter.unusedVariables false
set_option linter.unusedSimpArgs false
def setC (c : Nat → Int) (i : Nat) (v : Int) : Nat → Int := fun j => if j = i then v else c j
def plainF (m : Mach) (c k : Int) (d : Dat) : Mach × Bool × Bool :=
  bif isAluF c then
    bif (c == 52 || c == 60) && withF m c k == 0 then (m, false, c == 60) else (⟨aluF c m.a (withF m c k), m.x, m.c⟩, true, false)
  else bif c == 0 then (⟨k, m.x, m.c⟩, true, false)
  else bif c == 1 then (⟨m.a, k, m.c⟩, true, false)
  else bif c == 128 then (⟨64, m.x, m.c⟩, true, false)
  else bif c == 129 then (⟨m.a, 64, m.c⟩, true, false)
  else bif c == 132 then (⟨IntKind.wrap .u32 (0 - m.a), m.x, m.c⟩, true, false)
  else bif c == 7 then (⟨m.a, m.a, m.c⟩, true, false)
  else bif c == 135 then (⟨m.x, m.x, m.c⟩, true, false)
  else bif c == 32 then (⟨(wordF d k).1, m.x, m.c⟩, (wordF d k).2, false)
  else bif c == 2 || c == 3 || c == 96 || c == 97 then
    bif decide (k ≥ 16) then (m, false, false)
    else bif c == 2 then (⟨m.a, m.x, setC m.c k.toNat m.a⟩, true, false)
    else bif c == 3 then (⟨m.a, m.x, setC m.c k.toNat m.x⟩, true, false)
    else bif c == 96 then (⟨m.c k.toNat, m.x, m.c⟩, true, false)
    else (⟨m.a, m.c k.toNat, m.c⟩, true, false)
  else (m, false, false)
def Mach.ok (m : Mach) : Prop := (0 ≤ m.a ∧ m.a < 2 ^ 32) ∧ (0 ≤ m.x ∧ m.x < 2 ^ 32) ∧ ∀ i, 0 ≤ m.c i ∧ m.c i < 2 ^ 32
def okV (a b : Bool) : V := .tup [.one (.d (.sc (.bool a))), .one (.d (.sc (.bool b)))]
abbrev PlainS (m : Mach) (c k : Int) (d : Dat) : Prop := Am.Spec Try.prog 32 [.one (.ptr 0 0), int .i64 c, int .u32 k, .agg (d.row.map .d)] [.var m.cells] (fun v σ => v = okV (plainF m c k d).2.1 (plainF m c k d).2.2 ∧ σ = [.var (plainF m c k d).1.cells])
theorem plainA (m : Mach) (c k : Int) (d : Dat) (hm : m.ok) (hk : 0 ≤ k) (ha : isAluF c = true) : PlainS m c k d := by
  have c1 := isAluR c
  rw [ha] at c1
  have tri : ((c == 52) = true ∧ (c == 60) = false) ∨ ((c == 52) = false ∧ (c == 60) = true) ∨ ((c == 52) = false ∧ (c == 60) = false) := by
    simp; omega
  obtain ⟨nr, ar, ip, a0, a1, a2, a3, a4, a5⟩ := d
  cases hx : x8 c with
  | true =>
    have hwe : withF m c k = m.x := by rw [withF, hx]; rfl
    have hx' : (!(IntKind.wrap .i64 ↑(BitVec.ofInt IntKind.i64.bits c &&& BitVec.ofInt IntKind.i64.bits 8).toNat == 0)) = true := hx
    have hw : 0 ≤ m.x := hm.2.1.1
    cases hz : m.x == 0 with
    | true =>
      rcases tri with ⟨n1, n2⟩ | ⟨n1, n2⟩ | ⟨n1, n2⟩
      · have hp : plainF m c k ⟨nr, ar, ip, a0, a1, a2, a3, a4, a5⟩ = (m, false, false) := by unfold plainF; rw [ha, hwe, hz, n1, n2]; rfl
        unfold PlainS
        rw [hp]
        refine Spec.body (C := cx [] 161) fits (fn := Try.f32) Try.func32 rfl (by decide) (by decide) (gI ?_)
        repeat' (first | ((first | refine C_r ?_ | refine O_r ?_); (conv => whnf); first | (refine ⟨fun hb => ?_, fun hb => ?_⟩ <;> try exact no_way) | refine B_o ?_ | refine fR ?_) | refine C_l (c1) ?_ | fail)
        exact ⟨rfl, rfl⟩
      · have hp : plainF m c k ⟨nr, ar, ip, a0, a1, a2, a3, a4, a5⟩ = (m, false, true) := by unfold plainF; rw [ha, hwe, hz, n1, n2]; rfl
        unfold PlainS
        rw [hp]
        refine Spec.body (C := cx [] 161) fits (fn := Try.f32) Try.func32 rfl (by decide) (by decide) (gI ?_)
        repeat' (first | ((first | refine C_r ?_ | refine O_r ?_); (conv => whnf); first | (refine ⟨fun hb => ?_, fun hb => ?_⟩ <;> try exact no_way) | refine B_o ?_ | refine fR ?_) | refine C_l (c1) ?_ | fail)
        exact ⟨rfl, rfl⟩
      · have hp : plainF m c k ⟨nr, ar, ip, a0, a1, a2, a3, a4, a5⟩ = (⟨aluF c m.a (m.x), m.x, m.c⟩, true, false) := by unfold plainF; rw [ha, hwe, hz, n1, n2]; rfl
        have c2 := aluR c m.a (m.x) hw (by rw [n1, n2]; intro h; cases h)
        unfold PlainS
        rw [hp]
        refine Spec.body (C := cx [] 161) fits (fn := Try.f32) Try.func32 rfl (by decide) (by decide) (gI ?_)
        repeat' (first | ((first | refine C_r ?_ | refine O_r ?_); (conv => whnf); first | (refine ⟨fun hb => ?_, fun hb => ?_⟩ <;> try exact no_way) | refine B_o ?_ | refine fR ?_) | refine C_l (c1) ?_ | refine C_l (c2) ?_ | fail)
        exact ⟨rfl, rfl⟩
    | false =>
      have c2 := aluR c m.a (m.x) hw (fun _ => by simpa using hz)
      rcases tri with ⟨n1, n2⟩ | ⟨n1, n2⟩ | ⟨n1, n2⟩
      · have hp : plainF m c k ⟨nr, ar, ip, a0, a1, a2, a3, a4, a5⟩ = (⟨aluF c m.a (m.x), m.x, m.c⟩, true, false) := by unfold plainF; rw [ha, hwe, hz, n1, n2]; rfl
        unfold PlainS
        rw [hp]
        refine Spec.body (C := cx [] 161) fits (fn := Try.f32) Try.func32 rfl (by decide) (by decide) (gI ?_)
        repeat' (first | ((first | refine C_r ?_ | refine O_r ?_); (conv => whnf); first | (refine ⟨fun hb => ?_, fun hb => ?_⟩ <;> try exact no_way) | refine B_o ?_ | refine fR ?_) | refine C_l (c1) ?_ | refine C_l (c2) ?_ | fail)
        exact ⟨rfl, rfl⟩
      · have hp : plainF m c k ⟨nr, ar, ip, a0, a1, a2, a3, a4, a5⟩ = (⟨aluF c m.a (m.x), m.x, m.c⟩, true, false) := by unfold plainF; rw [ha, hwe, hz, n1, n2]; rfl
        unfold PlainS
        rw [hp]
        refine Spec.body (C := cx [] 161) fits (fn := Try.f32) Try.func32 rfl (by decide) (by decide) (gI ?_)
        repeat' (first | ((first | refine C_r ?_ | refine O_r ?_); (conv => whnf); first | (refine ⟨fun hb => ?_, fun hb => ?_⟩ <;> try exact no_way) | refine B_o ?_ | refine fR ?_) | refine C_l (c1) ?_ | refine C_l (c2) ?_ | fail)
        exact ⟨rfl, rfl⟩
      · have hp : plainF m c k ⟨nr, ar, ip, a0, a1, a2, a3, a4, a5⟩ = (⟨aluF c m.a (m.x), m.x, m.c⟩, true, false) := by unfold plainF; rw [ha, hwe, hz, n1, n2]; rfl
        unfold PlainS
        rw [hp]
        refine Spec.body (C := cx [] 161) fits (fn := Try.f32) Try.func32 rfl (by decide) (by decide) (gI ?_)
        repeat' (first | ((first | refine C_r ?_ | refine O_r ?_); (conv => whnf); first | (refine ⟨fun hb => ?_, fun hb => ?_⟩ <;> try exact no_way) | refine B_o ?_ | refine fR ?_) | refine C_l (c1) ?_ | refine C_l (c2) ?_ | fail)
        exact ⟨rfl, rfl⟩
  | false =>
    have hwe : withF m c k = k := by rw [withF, hx]; rfl
    have hx' : (!(IntKind.wrap .i64 ↑(BitVec.ofInt IntKind.i64.bits c &&& BitVec.ofInt IntKind.i64.bits 8).toNat == 0)) = false := hx
    have hw : 0 ≤ k := hk
    cases hz : k == 0 with
    | true =>
      rcases tri with ⟨n1, n2⟩ | ⟨n1, n2⟩ | ⟨n1, n2⟩
      · have hp : plainF m c k ⟨nr, ar, ip, a0, a1, a2, a3, a4, a5⟩ = (m, false, false) := by unfold plainF; rw [ha, hwe, hz, n1, n2]; rfl
        unfold PlainS
        rw [hp]
        refine Spec.body (C := cx [] 161) fits (fn := Try.f32) Try.func32 rfl (by decide) (by decide) (gI ?_)
        repeat' (first | ((first | refine C_r ?_ | refine O_r ?_); (conv => whnf); first | (refine ⟨fun hb => ?_, fun hb => ?_⟩ <;> try exact no_way) | refine B_o ?_ | refine fR ?_) | refine C_l (c1) ?_ | fail)
        exact ⟨rfl, rfl⟩
      · have hp : plainF m c k ⟨nr, ar, ip, a0, a1, a2, a3, a4, a5⟩ = (m, false, true) := by unfold plainF; rw [ha, hwe, hz, n1, n2]; rfl
        unfold PlainS
        rw [hp]
        refine Spec.body (C := cx [] 161) fits (fn := Try.f32) Try.func32 rfl (by decide) (by decide) (gI ?_)
        repeat' (first | ((first | refine C_r ?_ | refine O_r ?_); (conv => whnf); first | (refine ⟨fun hb => ?_, fun hb => ?_⟩ <;> try exact no_way) | refine B_o ?_ | refine fR ?_) | refine C_l (c1) ?_ | fail)
        exact ⟨rfl, rfl⟩
      · have hp : plainF m c k ⟨nr, ar, ip, a0, a1, a2, a3, a4, a5⟩ = (⟨aluF c m.a (k), m.x, m.c⟩, true, false) := by unfold plainF; rw [ha, hwe, hz, n1, n2]; rfl
        have c2 := aluR c m.a (k) hw (by rw [n1, n2]; intro h; cases h)
        unfold PlainS
        rw [hp]
        refine Spec.body (C := cx [] 161) fits (fn := Try.f32) Try.func32 rfl (by decide) (by decide) (gI ?_)
        repeat' (first | ((first | refine C_r ?_ | refine O_r ?_); (conv => whnf); first | (refine ⟨fun hb => ?_, fun hb => ?_⟩ <;> try exact no_way) | refine B_o ?_ | refine fR ?_) | refine C_l (c1) ?_ | refine C_l (c2) ?_ | fail)
        exact ⟨rfl, rfl⟩
    | false =>
      have c2 := aluR c m.a (k) hw (fun _ => by simpa using hz)
      rcases tri with ⟨n1, n2⟩ | ⟨n1, n2⟩ | ⟨n1, n2⟩
      · have hp : plainF m c k ⟨nr, ar, ip, a0, a1, a2, a3, a4, a5⟩ = (⟨aluF c m.a (k), m.x, m.c⟩, true, false) := by unfold plainF; rw [ha, hwe, hz, n1, n2]; rfl
        unfold PlainS
        rw [hp]
        refine Spec.body (C := cx [] 161) fits (fn := Try.f32) Try.func32 rfl (by decide) (by decide) (gI ?_)
        repeat' (first | ((first | refine C_r ?_ | refine O_r ?_); (conv => whnf); first | (refine ⟨fun hb => ?_, fun hb => ?_⟩ <;> try exact no_way) | refine B_o ?_ | refine fR ?_) | refine C_l (c1) ?_ | refine C_l (c2) ?_ | fail)
        exact ⟨rfl, rfl⟩
      · have hp : plainF m c k ⟨nr, ar, ip, a0, a1, a2, a3, a4, a5⟩ = (⟨aluF c m.a (k), m.x, m.c⟩, true, false) := by unfold plainF; rw [ha, hwe, hz, n1, n2]; rfl
        unfold PlainS
        rw [hp]
        refine Spec.body (C := cx [] 161) fits (fn := Try.f32) Try.func32 rfl (by decide) (by decide) (gI ?_)
        repeat' (first | ((first | refine C_r ?_ | refine O_r ?_); (conv => whnf); first | (refine ⟨fun hb => ?_, fun hb => ?_⟩ <;> try exact no_way) | refine B_o ?_ | refine fR ?_) | refine C_l (c1) ?_ | refine C_l (c2) ?_ | fail)
        exact ⟨rfl, rfl⟩
      · have hp : plainF m c k ⟨nr, ar, ip, a0, a1, a2, a3, a4, a5⟩ = (⟨aluF c m.a (k), m.x, m.c⟩, true, false) := by unfold plainF; rw [ha, hwe, hz, n1, n2]; rfl
        unfold PlainS
        rw [hp]
        refine Spec.body (C := cx [] 161) fits (fn := Try.f32) Try.func32 rfl (by decide) (by decide) (gI ?_)
        repeat' (first | ((first | refine C_r ?_ | refine O_r ?_); (conv => whnf); first | (refine ⟨fun hb => ?_, fun hb => ?_⟩ <;> try exact no_way) | refine B_o ?_ | refine fR ?_) | refine C_l (c1) ?_ | refine C_l (c2) ?_ | fail)
        exact ⟨rfl, rfl⟩
theorem plainB (m : Mach) (c k : Int) (d : Dat) (hd : d.ok) (hk : 0 ≤ k) (hk' : k < 2 ^ 32) (hc : c = 0 ∨ c = 1 ∨ c = 128 ∨ c = 129 ∨ c = 132 ∨ c = 7 ∨ c = 135 ∨ c = 32) : PlainS m c k d := by
  have c1 := isAluR c
  have c2 := wordR d k hd hk hk'
  generalize hq : wordF d k = q at c2
  obtain ⟨q1, q2⟩ := q
  rcases hc with rfl | rfl | rfl | rfl | rfl | rfl | rfl | rfl
  · have hp : plainF m 0 k d = (⟨k, m.x, m.c⟩, true, false) := by rfl
    unfold PlainS
    rw [hp]
    rw [show isAluF 0 = false from rfl] at c1
    obtain ⟨nr, ar, ip, a0, a1, a2, a3, a4, a5⟩ := d
    refine Spec.body (C := cx [] 161) fits (fn := Try.f32) Try.func32 rfl (by decide) (by decide) (gI ?_)
    repeat' (first | ((first | refine C_r ?_ | refine O_r ?_); (conv => whnf); first | (refine ⟨fun hb => ?_, fun hb => ?_⟩ <;> try exact no_way) | refine B_o ?_ | refine fR ?_) | refine C_l (c1) ?_ | fail)
    exact ⟨rfl, rfl⟩
  · have hp : plainF m 1 k d = (⟨m.a, k, m.c⟩, true, false) := by rfl
    unfold PlainS
    rw [hp]
    rw [show isAluF 1 = false from rfl] at c1
    obtain ⟨nr, ar, ip, a0, a1, a2, a3, a4, a5⟩ := d
    refine Spec.body (C := cx [] 161) fits (fn := Try.f32) Try.func32 rfl (by decide) (by decide) (gI ?_)
    repeat' (first | ((first | refine C_r ?_ | refine O_r ?_); (conv => whnf); first | (refine ⟨fun hb => ?_, fun hb => ?_⟩ <;> try exact no_way) | refine B_o ?_ | refine fR ?_) | refine C_l (c1) ?_ | fail)
    exact ⟨rfl, rfl⟩
  · have hp : plainF m 128 k d = (⟨64, m.x, m.c⟩, true, false) := by rfl
    unfold PlainS
    rw [hp]
    rw [show isAluF 128 = false from rfl] at c1
    obtain ⟨nr, ar, ip, a0, a1, a2, a3, a4, a5⟩ := d
    refine Spec.body (C := cx [] 161) fits (fn := Try.f32) Try.func32 rfl (by decide) (by decide) (gI ?_)
    repeat' (first | ((first | refine C_r ?_ | refine O_r ?_); (conv => whnf); first | (refine ⟨fun hb => ?_, fun hb => ?_⟩ <;> try exact no_way) | refine B_o ?_ | refine fR ?_) | refine C_l (c1) ?_ | fail)
    exact ⟨rfl, rfl⟩
  · have hp : plainF m 129 k d = (⟨m.a, 64, m.c⟩, true, false) := by rfl
    unfold PlainS
    rw [hp]
    rw [show isAluF 129 = false from rfl] at c1
    obtain ⟨nr, ar, ip, a0, a1, a2, a3, a4, a5⟩ := d
    refine Spec.body (C := cx [] 161) fits (fn := Try.f32) Try.func32 rfl (by decide) (by decide) (gI ?_)
    repeat' (first | ((first | refine C_r ?_ | refine O_r ?_); (conv => whnf); first | (refine ⟨fun hb => ?_, fun hb => ?_⟩ <;> try exact no_way) | refine B_o ?_ | refine fR ?_) | refine C_l (c1) ?_ | fail)
    exact ⟨rfl, rfl⟩
  · have hp : plainF m 132 k d = (⟨IntKind.wrap .u32 (0 - m.a), m.x, m.c⟩, true, false) := by rfl
    unfold PlainS
    rw [hp]
    rw [show isAluF 132 = false from rfl] at c1
    obtain ⟨nr, ar, ip, a0, a1, a2, a3, a4, a5⟩ := d
    refine Spec.body (C := cx [] 161) fits (fn := Try.f32) Try.func32 rfl (by decide) (by decide) (gI ?_)
    repeat' (first | ((first | refine C_r ?_ | refine O_r ?_); (conv => whnf); first | (refine ⟨fun hb => ?_, fun hb => ?_⟩ <;> try exact no_way) | refine B_o ?_ | refine fR ?_) | refine C_l (c1) ?_ | fail)
    exact ⟨rfl, rfl⟩
  · have hp : plainF m 7 k d = (⟨m.a, m.a, m.c⟩, true, false) := by rfl
    unfold PlainS
    rw [hp]
    rw [show isAluF 7 = false from rfl] at c1
    obtain ⟨nr, ar, ip, a0, a1, a2, a3, a4, a5⟩ := d
    refine Spec.body (C := cx [] 161) fits (fn := Try.f32) Try.func32 rfl (by decide) (by decide) (gI ?_)
    repeat' (first | ((first | refine C_r ?_ | refine O_r ?_); (conv => whnf); first | (refine ⟨fun hb => ?_, fun hb => ?_⟩ <;> try exact no_way) | refine B_o ?_ | refine fR ?_) | refine C_l (c1) ?_ | fail)
    exact ⟨rfl, rfl⟩
  · have hp : plainF m 135 k d = (⟨m.x, m.x, m.c⟩, true, false) := by rfl
    unfold PlainS
    rw [hp]
    rw [show isAluF 135 = false from rfl] at c1
    obtain ⟨nr, ar, ip, a0, a1, a2, a3, a4, a5⟩ := d
    refine Spec.body (C := cx [] 161) fits (fn := Try.f32) Try.func32 rfl (by decide) (by decide) (gI ?_)
    repeat' (first | ((first | refine C_r ?_ | refine O_r ?_); (conv => whnf); first | (refine ⟨fun hb => ?_, fun hb => ?_⟩ <;> try exact no_way) | refine B_o ?_ | refine fR ?_) | refine C_l (c1) ?_ | fail)
    exact ⟨rfl, rfl⟩
  · have hp : plainF m 32 k d = (⟨q1, m.x, m.c⟩, q2, false) := by show ((⟨(wordF d k).1, m.x, m.c⟩, (wordF d k).2, false) : Mach × Bool × Bool) = _; rw [hq]
    unfold PlainS
    rw [hp]
    rw [show isAluF 32 = false from rfl] at c1
    obtain ⟨nr, ar, ip, a0, a1, a2, a3, a4, a5⟩ := d
    refine Spec.body (C := cx [] 161) fits (fn := Try.f32) Try.func32 rfl (by decide) (by decide) (gI ?_)
    repeat' (first | ((first | refine C_r ?_ | refine O_r ?_); (conv => whnf); first | (refine ⟨fun hb => ?_, fun hb => ?_⟩ <;> try exact no_way) | refine B_o ?_ | refine fR ?_) | refine C_l (c1) ?_ | refine C_l (c2) ?_ | fail)
    all_goals (have hb' : q2 = _ := hb; subst hb'; exact ⟨rfl, rfl⟩)
theorem plainC (m : Mach) (c k : Int) (d : Dat) (hk : 0 ≤ k) (hc : c = 2 ∨ c = 3 ∨ c = 96 ∨ c = 97) : PlainS m c k d := by
  have c1 := isAluR c
  by_cases hk' : 16 ≤ k
  · have b1 : decide (k ≥ 16) = true := decide_eq_true hk'
    rcases hc with rfl | rfl | rfl | rfl
    · have hp : plainF m 2 k d = (m, false, false) := by show (bif decide (k ≥ 16) then _ else _) = _; rw [b1]; rfl
      unfold PlainS
      rw [hp]
      rw [show isAluF 2 = false from rfl] at c1
      obtain ⟨nr, ar, ip, a0, a1, a2, a3, a4, a5⟩ := d
      refine Spec.body (C := cx [] 161) fits (fn := Try.f32) Try.func32 rfl (by decide) (by decide) (gI ?_)
      repeat' (first | ((first | refine C_r ?_ | refine O_r ?_); (conv => whnf); first | (refine ⟨fun hb => ?_, fun hb => ?_⟩ <;> try exact no_way) | refine B_o ?_ | refine fR ?_) | refine C_l (c1) ?_ | fail)
      exact ⟨rfl, rfl⟩
    · have hp : plainF m 3 k d = (m, false, false) := by show (bif decide (k ≥ 16) then _ else _) = _; rw [b1]; rfl
      unfold PlainS
      rw [hp]
      rw [show isAluF 3 = false from rfl] at c1
      obtain ⟨nr, ar, ip, a0, a1, a2, a3, a4, a5⟩ := d
      refine Spec.body (C := cx [] 161) fits (fn := Try.f32) Try.func32 rfl (by decide) (by decide) (gI ?_)
      repeat' (first | ((first | refine C_r ?_ | refine O_r ?_); (conv => whnf); first | (refine ⟨fun hb => ?_, fun hb => ?_⟩ <;> try exact no_way) | refine B_o ?_ | refine fR ?_) | refine C_l (c1) ?_ | fail)
      exact ⟨rfl, rfl⟩
    · have hp : plainF m 96 k d = (m, false, false) := by show (bif decide (k ≥ 16) then _ else _) = _; rw [b1]; rfl
      unfold PlainS
      rw [hp]
      rw [show isAluF 96 = false from rfl] at c1
      obtain ⟨nr, ar, ip, a0, a1, a2, a3, a4, a5⟩ := d
      refine Spec.body (C := cx [] 161) fits (fn := Try.f32) Try.func32 rfl (by decide) (by decide) (gI ?_)
      repeat' (first | ((first | refine C_r ?_ | refine O_r ?_); (conv => whnf); first | (refine ⟨fun hb => ?_, fun hb => ?_⟩ <;> try exact no_way) | refine B_o ?_ | refine fR ?_) | refine C_l (c1) ?_ | fail)
      exact ⟨rfl, rfl⟩
    · have hp : plainF m 97 k d = (m, false, false) := by show (bif decide (k ≥ 16) then _ else _) = _; rw [b1]; rfl
      unfold PlainS
      rw [hp]
      rw [show isAluF 97 = false from rfl] at c1
      obtain ⟨nr, ar, ip, a0, a1, a2, a3, a4, a5⟩ := d
      refine Spec.body (C := cx [] 161) fits (fn := Try.f32) Try.func32 rfl (by decide) (by decide) (gI ?_)
      repeat' (first | ((first | refine C_r ?_ | refine O_r ?_); (conv => whnf); first | (refine ⟨fun hb => ?_, fun hb => ?_⟩ <;> try exact no_way) | refine B_o ?_ | refine fR ?_) | refine C_l (c1) ?_ | fail)
      exact ⟨rfl, rfl⟩
  · obtain ⟨nr, ar, ip, a0, a1, a2, a3, a4, a5⟩ := d
    have hks : k = 0 ∨ k = 1 ∨ k = 2 ∨ k = 3 ∨ k = 4 ∨ k = 5 ∨ k = 6 ∨ k = 7 ∨ k = 8 ∨ k = 9 ∨ k = 10 ∨ k = 11 ∨ k = 12 ∨ k = 13 ∨ k = 14 ∨ k = 15 := by omega
    clear hk' hk
    rcases hc with rfl | rfl | rfl | rfl
    · rw [show isAluF 2 = false from rfl] at c1
      rcases hks with rfl | rfl | rfl | rfl | rfl | rfl | rfl | rfl | rfl | rfl | rfl | rfl | rfl | rfl | rfl | rfl
      all_goals
        refine Spec.body (C := cx [] 161) fits (fn := Try.f32) Try.func32 rfl (by decide) (by decide) (gI ?_)
        repeat' (first | ((first | refine C_r ?_ | refine O_r ?_); (conv => whnf); first | (refine ⟨fun hb => ?_, fun hb => ?_⟩ <;> try exact no_way) | refine B_o ?_ | refine fR ?_) | refine C_l (c1) ?_ | fail)
        exact ⟨rfl, rfl⟩
    · rw [show isAluF 3 = false from rfl] at c1
      rcases hks with rfl | rfl | rfl | rfl | rfl | rfl | rfl | rfl | rfl | rfl | rfl | rfl | rfl | rfl | rfl | rfl
      all_goals
        refine Spec.body (C := cx [] 161) fits (fn := Try.f32) Try.func32 rfl (by decide) (by decide) (gI ?_)
        repeat' (first | ((first | refine C_r ?_ | refine O_r ?_); (conv => whnf); first | (refine ⟨fun hb => ?_, fun hb => ?_⟩ <;> try exact no_way) | refine B_o ?_ | refine fR ?_) | refine C_l (c1) ?_ | fail)
        exact ⟨rfl, rfl⟩
    · rw [show isAluF 96 = false from rfl] at c1
      rcases hks with rfl | rfl | rfl | rfl | rfl | rfl | rfl | rfl | rfl | rfl | rfl | rfl | rfl | rfl | rfl | rfl
      all_goals
        refine Spec.body (C := cx [] 161) fits (fn := Try.f32) Try.func32 rfl (by decide) (by decide) (gI ?_)
        repeat' (first | ((first | refine C_r ?_ | refine O_r ?_); (conv => whnf); first | (refine ⟨fun hb => ?_, fun hb => ?_⟩ <;> try exact no_way) | refine B_o ?_ | refine fR ?_) | refine C_l (c1) ?_ | fail)
        exact ⟨rfl, rfl⟩
    · rw [show isAluF 97 = false from rfl] at c1
      rcases hks with rfl | rfl | rfl | rfl | rfl | rfl | rfl | rfl | rfl | rfl | rfl | rfl | rfl | rfl | rfl | rfl
      all_goals
        refine Spec.body (C := cx [] 161) fits (fn := Try.f32) Try.func32 rfl (by decide) (by decide) (gI ?_)
        repeat' (first | ((first | refine C_r ?_ | refine O_r ?_); (conv => whnf); first | (refine ⟨fun hb => ?_, fun hb => ?_⟩ <;> try exact no_way) | refine B_o ?_ | refine fR ?_) | refine C_l (c1) ?_ | fail)
        exact ⟨rfl, rfl⟩
theorem plainD (m : Mach) (c k : Int) (d : Dat) (ha : isAluF c = false) (hb1 : ¬ (c = 0 ∨ c = 1 ∨ c = 128 ∨ c = 129 ∨ c = 132 ∨ c = 7 ∨ c = 135 ∨ c = 32)) (hc : ¬ (c = 2 ∨ c = 3 ∨ c = 96 ∨ c = 97)) : PlainS m c k d := by
  have c1 := isAluR c
  rw [ha] at c1
  have f : ∀ n : Int, c ≠ n → (c == n) = false := fun n h => beq_false_of_ne h
  have n0 := f 0 (by omega)
  have n1 := f 1 (by omega)
  have n2 := f 128 (by omega)
  have n3 := f 129 (by omega)
  have n4 := f 132 (by omega)
  have n5 := f 7 (by omega)
  have n6 := f 135 (by omega)
  have n7 := f 32 (by omega)
  have n8 := f 2 (by omega)
  have n9 := f 3 (by omega)
  have n10 := f 96 (by omega)
  have n11 := f 97 (by omega)
  have hp : plainF m c k d = (m, false, false) := by unfold plainF; rw [ha, n0, n1, n2, n3, n4, n5, n6, n7, n8, n9, n10, n11]; rfl
  unfold PlainS
  rw [hp]
  obtain ⟨nr, ar, ip, a0, a1, a2, a3, a4, a5⟩ := d
  refine Spec.body (C := cx [] 161) fits (fn := Try.f32) Try.func32 rfl (by decide) (by decide) (gI ?_)
  repeat' (first | ((first | refine C_r ?_ | refine O_r ?_); (conv => whnf); first | (refine ⟨fun hb => ?_, fun hb => ?_⟩ <;> try exact no_way) | refine B_o ?_ | refine fR ?_) | refine C_l (c1) ?_ | fail)
  exact ⟨rfl, rfl⟩
theorem plainR (m : Mach) (c k : Int) (d : Dat) (hm : m.ok) (hd : d.ok) (hk : 0 ≤ k) (hk' : k < 2 ^ 32) : PlainS m c k d := by
  cases ha : isAluF c with
  | true => exact plainA m c k d hm hk ha
  | false =>
    by_cases h1 : c = 0 ∨ c = 1 ∨ c = 128 ∨ c = 129 ∨ c = 132 ∨ c = 7 ∨ c = 135 ∨ c = 32
    · exact plainB m c k d hd hk hk' h1
    · by_cases h2 : c = 2 ∨ c = 3 ∨ c = 96 ∨ c = 97
      · exact plainC m c k d hk h2
      · exact plainD m c k d ha h1 h2
end Go.Proofs.Ytcplpllbinilmaa
