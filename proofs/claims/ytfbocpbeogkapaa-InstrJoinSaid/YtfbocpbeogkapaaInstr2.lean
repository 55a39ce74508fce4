/- A part of a proof: functions of the program, walked over the abstract machine. -/
import Derived.Test.YtfbocpbeogkapaaInstr1
set_option linter.unusedVariables false
set_option linter.unusedSimpArgs false
namespace Go.Proofs.Ytfbocpbeogkapaa
open Go Go.Am Go.Proofs
attribute [local irreducible] W WL DL WO RoundEnd
set_option maxRecDepth 10000
set_option maxHeartbeats 4000000
/-- an instruction out of its bytes -/
def insOf (b0 b1 b2 b3 b4 b5 b6 b7 : UInt8) : Ins :=
  ⟨((b0.toNat + 256 * b1.toNat : Nat) : Int), (b2.toNat : Int), (b3.toNat : Int), ((b4.toNat + 256 * b5.toNat + 65536 * b6.toNat + 16777216 * b7.toNat : Nat) : Int)⟩
def decode : List UInt8 → List Ins
  | b0 :: b1 :: b2 :: b3 :: b4 :: b5 :: b6 :: b7 :: r => insOf b0 b1 b2 b3 b4 b5 b6 b7 :: decode r
  | _ => []
def readR (bs : List UInt8) : List Ins × Int := bif Nat.beq (bs.length % 8) 0 then (decode bs, 0) else ([], 2)
def readV (r : List Ins × Int) : V := .tup [.one (.d (.list (r.1.map Ins.row))), .one (.d (.sc (.int .i64 r.2)))]
theorem or64 {s b i : Nat} {p : Int} (hp : p = ((2 ^ i : Nat) : Int)) (hs : s < 2 ^ i) (h : s + 2 ^ i * b < 2 ^ 63) :
    IntKind.i64.wrap ↑(BitVec.ofInt IntKind.i64.bits (s : Int) ||| BitVec.ofInt IntKind.i64.bits (IntKind.i64.wrap ((b : Int) * p))).toNat = ((s + 2 ^ i * b : Nat) : Int) := by
  have h1 : (b : Int) * p = ((2 ^ i * b : Nat) : Int) := by rw [hp, Int.mul_comm, Int.natCast_mul]
  rw [h1, wrap64_nat (n := 2 ^ i * b) (by omega)]
  show IntKind.i64.wrap ↑(BitVec.ofInt 64 (s : Int) ||| BitVec.ofInt 64 ((2 ^ i * b : Nat) : Int)).toNat = _
  rw [or_nat 64 s b i hs (by omega), wrap64_nat (by omega)]
theorem or32 {s b i : Nat} {p : Int} (hp : p = ((2 ^ i : Nat) : Int)) (hs : s < 2 ^ i) (h : s + 2 ^ i * b < 2 ^ 32) :
    IntKind.u32.wrap ↑(BitVec.ofInt IntKind.u32.bits (s : Int) ||| BitVec.ofInt IntKind.u32.bits (IntKind.u32.wrap ((b : Int) * p))).toNat = ((s + 2 ^ i * b : Nat) : Int) := by
  have h1 : (b : Int) * p = ((2 ^ i * b : Nat) : Int) := by rw [hp, Int.mul_comm, Int.natCast_mul]
  rw [h1, wrap32_nat (n := 2 ^ i * b) (by omega)]
  show IntKind.u32.wrap ↑(BitVec.ofInt 32 (s : Int) ||| BitVec.ofInt 32 ((2 ^ i * b : Nat) : Int)).toNat = _
  rw [or_nat 32 s b i hs (by omega), wrap32_nat (by omega)]
theorem len_tmod (bs : List UInt8) : ((bs.map u8row).length : Int).tmod 8 = ((bs.length % 8 : Nat) : Int) := by rw [List.length_map]; rfl
/-- an instruction, as Read makes it -/
theorem ins_read (b0 b1 b2 b3 b4 b5 b6 b7 : UInt8) :
    [D.sc (Value.int IntKind.i64 (IntKind.i64.wrap ↑(BitVec.ofInt IntKind.i64.bits (IntKind.i64.wrap ↑b0.toNat) ||| BitVec.ofInt IntKind.i64.bits (IntKind.i64.wrap (IntKind.i64.wrap ↑b1.toNat * 2 ^ min (Int.toNat 8) IntKind.i64.bits))).toNat)),
      D.sc (Value.int IntKind.i64 (IntKind.i64.wrap ↑b2.toNat)), D.sc (Value.int IntKind.i64 (IntKind.i64.wrap ↑b3.toNat)),
      D.sc (Value.int IntKind.u32 (IntKind.u32.wrap ↑(BitVec.ofInt IntKind.u32.bits (IntKind.u32.wrap ↑(BitVec.ofInt IntKind.u32.bits (IntKind.u32.wrap ↑(BitVec.ofInt IntKind.u32.bits (IntKind.u32.wrap ↑(BitVec.ofInt IntKind.u32.bits 0 |||
        BitVec.ofInt IntKind.u32.bits (IntKind.u32.wrap (IntKind.u32.wrap ↑b4.toNat * 2 ^ min (IntKind.i64.wrap (8 * 0)).toNat IntKind.u32.bits))).toNat) |||
        BitVec.ofInt IntKind.u32.bits (IntKind.u32.wrap (IntKind.u32.wrap ↑b5.toNat * 2 ^ min (IntKind.i64.wrap (8 * IntKind.i64.wrap (0 + 1))).toNat IntKind.u32.bits))).toNat) |||
        BitVec.ofInt IntKind.u32.bits (IntKind.u32.wrap (IntKind.u32.wrap ↑b6.toNat * 2 ^ min (IntKind.i64.wrap (8 * IntKind.i64.wrap (IntKind.i64.wrap (0 + 1) + 1))).toNat IntKind.u32.bits))).toNat) |||
        BitVec.ofInt IntKind.u32.bits (IntKind.u32.wrap (IntKind.u32.wrap ↑b7.toNat * 2 ^ min (IntKind.i64.wrap (8 * IntKind.i64.wrap (IntKind.i64.wrap (IntKind.i64.wrap (0 + 1) + 1) + 1))).toNat IntKind.u32.bits))).toNat))]
      = (insOf b0 b1 b2 b3 b4 b5 b6 b7).row := by
  have l0 := u8_lt b0
  have l1 := u8_lt b1
  have l2 := u8_lt b2
  have l3 := u8_lt b3
  have l4 := u8_lt b4
  have l5 := u8_lt b5
  have l6 := u8_lt b6
  have l7 := u8_lt b7
  rw [wrap64_nat (n := b0.toNat) (by omega), wrap64_nat (n := b1.toNat) (by omega), wrap64_nat (n := b2.toNat) (by omega), wrap64_nat (n := b3.toNat) (by omega),
    wrap32_nat (n := b4.toNat) (by omega), wrap32_nat (n := b5.toNat) (by omega), wrap32_nat (n := b6.toNat) (by omega), wrap32_nat (n := b7.toNat) (by omega)]
  have h0 : (2 ^ min (Int.toNat 8) IntKind.i64.bits : Int) = ((2 ^ 8 : Nat) : Int) := rfl
  have h1 : (2 ^ min (IntKind.i64.wrap (8 * 0)).toNat IntKind.u32.bits : Int) = ((2 ^ 0 : Nat) : Int) := rfl
  have h2 : (2 ^ min (IntKind.i64.wrap (8 * IntKind.i64.wrap (0 + 1))).toNat IntKind.u32.bits : Int) = ((2 ^ 8 : Nat) : Int) := rfl
  have h3 : (2 ^ min (IntKind.i64.wrap (8 * IntKind.i64.wrap (IntKind.i64.wrap (0 + 1) + 1))).toNat IntKind.u32.bits : Int) = ((2 ^ 16 : Nat) : Int) := rfl
  have h4 : (2 ^ min (IntKind.i64.wrap (8 * IntKind.i64.wrap (IntKind.i64.wrap (IntKind.i64.wrap (0 + 1) + 1) + 1))).toNat IntKind.u32.bits : Int) = ((2 ^ 24 : Nat) : Int) := rfl
  have e1 := or32 (s := 0) (b := b4.toNat) (i := 0) (p := ((2 ^ 0 : Nat) : Int)) rfl (by omega) (by omega)
  rw [show ((0 : Nat) : Int) = 0 from rfl] at e1
  rw [h0, h1, h2, h3, h4, or64 (s := b0.toNat) (i := 8) (p := ((2 ^ 8 : Nat) : Int)) rfl (by omega) (by omega),
    e1, or32 (s := 0 + 2 ^ 0 * b4.toNat) (i := 8) (p := ((2 ^ 8 : Nat) : Int)) rfl (by omega) (by omega), or32 (s := 0 + 2 ^ 0 * b4.toNat + 2 ^ 8 * b5.toNat) (i := 16) (p := ((2 ^ 16 : Nat) : Int)) rfl (by omega) (by omega),
    or32 (s := 0 + 2 ^ 0 * b4.toNat + 2 ^ 8 * b5.toNat + 2 ^ 16 * b6.toNat) (i := 24) (p := ((2 ^ 24 : Nat) : Int)) rfl (by omega) (by omega)]
  simp [insOf, Ins.row]
theorem read (bs : List UInt8) (hl : bs.length ≤ 2 ^ 40) : Comp Try.prog 11 [bytesV bs] (readV (readR bs)) := by
  refine Spec.body (C := cx [(4, false)] 57) fits (fn := Try.f11) Try.func11 rfl (by decide) (by decide) (gI ?_)
  repeat' (first
    | ((first | refine gC fits mixed ?_ | refine gC0 fits mixed ?_ | refine gO fits mixed ?_ | refine gR fits mixed ?_); (conv => whnf); first | (refine ⟨fun hb => ?_, fun hb => ?_⟩ <;> try first | (simp only [Bool.not_true, Bool.not_false, Bool.true_eq_false, Bool.false_eq_true, reduceCtorEq] at hb; done) | (simp only [decide_eq_true_eq, decide_eq_false_iff_not, beq_iff_eq, beq_eq_false_iff_ne, bne_iff_ne, bne_eq_false_iff_eq, ne_eq, List.length_map, List.length_cons, List.length_nil, List.length_append, Bool.not_eq_true', Bool.not_eq_false'] at hb; exfalso; omega) | (exfalso; simp [ba_beq, IntKind.wrap, IntKind.bits, IntKind.signed] at hb; done)) | (show W _ _ _ _ _) | (show ∀ k, WL _ _ _ k _ _ _) | (show ∀ k, DL _ _ _ k _ _ _ _) | (show RoundEnd _ _ _ _ _) | refine fR ?_)
    | (show ∀ k, WL _ _ _ k _ _ _; first | refine fun k => lSA fits (oW ?_ _) | refine fun k => lL fits (oW ?_ _) | refine fun k => lQ fits (oW ?_ _) | refine fun k => lX fits (oW ?_ _) | refine fun k => lXa fits (oW ?_ _) | refine fun k => lK fits (oW ?_ _) | refine fun k => lKa fits (oW ?_ _) | refine fun k => lLk fits (oW ?_ _) | refine fun k => lUp fits (oW ?_ _) | refine fun k => lDel fits (oW ?_ _) | refine fun k => lSt fits (oW ?_ _) | refine fun k => lM fits (oW ?_ _) | refine fun k => lA fits (oW ?_ _) | refine fun k => lA0 fits (oW ?_ _) | refine fun k => lA1 fits (oW ?_ _) | refine fun k => lMk fits (oW ?_ _) | refine fun k => lW fits (oW ?_ _)))
  · rw [len_tmod] at hb
    refine ⟨?_, rfl⟩
    have hr : readR bs = ([], 2) := by
      unfold readR
      cases hb2 : Nat.beq (bs.length % 8) 0 with
      | true =>
        have := Nat.eq_of_beq_eq_true hb2
        rw [this] at hb; simp at hb
      | false => rfl
    rw [hr]; rfl
  have h8 : bs.length % 8 = 0 := by
    rw [len_tmod] at hb
    simp only [Bool.not_eq_false', beq_iff_eq] at hb; omega
  have hrr : readR bs = (decode bs, 0) := by unfold readR; rw [h8]; rfl
  refine wLoop [0, 2, 3, 4] 1 (bs.length + 1) ?_
  refine (fun key => key bs.length bs _ _ [] rfl h8 (by simp) (by simp) rfl rfl : (∀ (n : Nat) (rest : List UInt8) (rs rows : List (List D)) (out : List Ins), n = rest.length → n % 8 = 0 → n + 8 * out.length = bs.length → decode bs = out ++ decode rest → rs = rest.map u8row → rows = out.map Ins.row →
    WR2 _ _ _ _ _ (n + 1) [(0, .one (.d (.list rs))), (2, nilV), (3, int .i64 0), (4, .one (.arr 0 0 rows.length))] [.arr 0 false 4 rows]) → _) ?_
  intro n
  induction n using Nat.strongRecOn with
  | _ n ih =>
  intro rest rs rows out hn h8 hlen hout hrs hro
  have hrl : rows.length = out.length := by rw [hro, List.length_map]
  subst hrs
  rcases rest with _ | ⟨b0, _ | ⟨b1, _ | ⟨b2, _ | ⟨b3, _ | ⟨b4, _ | ⟨b5, _ | ⟨b6, _ | ⟨b7, r⟩⟩⟩⟩⟩⟩⟩⟩
  · subst hn
    refine wR (gI ?_)
    repeat' (first
    | ((first | refine gC fits mixed ?_ | refine gC0 fits mixed ?_ | refine gO fits mixed ?_ | refine gR fits mixed ?_); (conv => whnf); first | (refine ⟨fun hb => ?_, fun hb => ?_⟩ <;> try first | (simp only [Bool.not_true, Bool.not_false, Bool.true_eq_false, Bool.false_eq_true, reduceCtorEq] at hb; done) | (simp only [decide_eq_true_eq, decide_eq_false_iff_not, beq_iff_eq, beq_eq_false_iff_ne, bne_iff_ne, bne_eq_false_iff_eq, ne_eq, List.length_map, List.length_cons, List.length_nil, List.length_append, Bool.not_eq_true', Bool.not_eq_false'] at hb; exfalso; omega) | (exfalso; simp [ba_beq, IntKind.wrap, IntKind.bits, IntKind.signed] at hb; done)) | (show W _ _ _ _ _) | (show ∀ k, WL _ _ _ k _ _ _) | (show ∀ k, DL _ _ _ k _ _ _ _) | (show RoundEnd _ _ _ _ _) | refine fR ?_)
    | (show ∀ k, WL _ _ _ k _ _ _; first | refine fun k => lSA fits (oW ?_ _) | refine fun k => lL fits (oW ?_ _) | refine fun k => lQ fits (oW ?_ _) | refine fun k => lX fits (oW ?_ _) | refine fun k => lXa fits (oW ?_ _) | refine fun k => lK fits (oW ?_ _) | refine fun k => lKa fits (oW ?_ _) | refine fun k => lLk fits (oW ?_ _) | refine fun k => lUp fits (oW ?_ _) | refine fun k => lDel fits (oW ?_ _) | refine fun k => lSt fits (oW ?_ _) | refine fun k => lM fits (oW ?_ _) | refine fun k => lA fits (oW ?_ _) | refine fun k => lA0 fits (oW ?_ _) | refine fun k => lA1 fits (oW ?_ _) | refine fun k => lMk fits (oW ?_ _) | refine fun k => lW fits (oW ?_ _)))
    refine ⟨?_, rfl⟩
    rw [hrr]; simp only [readV, hout, hro]; simp [decode]
  all_goals try (simp at hn; omega)
  obtain ⟨m, rfl⟩ : ∃ m, n = m + 8 := ⟨r.length, by simp at hn; omega⟩
  simp only [List.length_cons] at hn
  refine wR (gI ?_)
  repeat' (first
    | refine W.rounds 5 (WR.step ?_)
    | ((first | refine gC fits mixed ?_ | refine gC0 fits mixed ?_ | refine gO fits mixed ?_ | refine gR fits mixed ?_); (conv => whnf); first | (refine ⟨fun hb => ?_, fun hb => ?_⟩ <;> try first | (simp only [Bool.not_true, Bool.not_false, Bool.true_eq_false, Bool.false_eq_true, reduceCtorEq] at hb; done) | (simp only [decide_eq_true_eq, decide_eq_false_iff_not, beq_iff_eq, beq_eq_false_iff_ne, bne_iff_ne, bne_eq_false_iff_eq, ne_eq, List.length_map, List.length_cons, List.length_nil, List.length_append, Bool.not_eq_true', Bool.not_eq_false'] at hb; exfalso; omega) | (exfalso; simp [ba_beq, IntKind.wrap, IntKind.bits, IntKind.signed] at hb; done)) | (show W _ _ _ _ _) | (show ∀ k, WL _ _ _ k _ _ _) | (show ∀ k, DL _ _ _ k _ _ _ _) | (show RoundEnd _ _ _ _ _) | refine fR ?_)
    | (show ∀ k, WL _ _ _ k _ _ _; first | refine fun k => lSA fits (oW ?_ _) | refine fun k => lL fits (oW ?_ _) | refine fun k => lQ fits (oW ?_ _) | refine fun k => lX fits (oW ?_ _) | refine fun k => lXa fits (oW ?_ _) | refine fun k => lK fits (oW ?_ _) | refine fun k => lKa fits (oW ?_ _) | refine fun k => lLk fits (oW ?_ _) | refine fun k => lUp fits (oW ?_ _) | refine fun k => lDel fits (oW ?_ _) | refine fun k => lSt fits (oW ?_ _) | refine fun k => lM fits (oW ?_ _) | refine fun k => lA fits (oW ?_ _) | refine fun k => lA0 fits (oW ?_ _) | refine fun k => lA1 fits (oW ?_ _) | refine fun k => lMk fits (oW ?_ _) | refine fun k => lW fits (oW ?_ _))
    | (show ∀ k, DL _ _ _ k _ _ _ _; first | refine fun k => dSA fits (oD ?_ _) | refine fun k => dL fits (oD ?_ _) | refine fun k => dQ fits (oD ?_ _) | refine fun k => dX fits (oD ?_ _) | refine fun k => dK fits (oD ?_ _) | refine fun k => dKa fits (oD ?_ _) | refine fun k => dLk fits (oD ?_ _) | refine fun k => dUp fits (oD ?_ _) | refine fun k => dA fits (oD ?_ _) | refine fun k => dA0 fits (oD ?_ _) | refine fun k => dSt fits (oD ?_ _) | refine fun k => dM fits (oD ?_ _) | refine fun k => dN fits (oD ?_ _) | refine fun k => dW fits (oD ?_ _)))
  refine rE (WR2.mono (ih m (by omega) r _ _ (out ++ [insOf b0 b1 b2 b3 b4 b5 b6 b7]) (by omega) (by omega) ?_ ?_ ?_ ?_) (by omega))
  · simp; omega
  · rw [hout]; simp [decode]
  · show List.drop 8 (List.take (((List.map u8row (b0 :: b1 :: b2 :: b3 :: b4 :: b5 :: b6 :: b7 :: r)).length : Int)).toNat (List.map u8row (b0 :: b1 :: b2 :: b3 :: b4 :: b5 :: b6 :: b7 :: r))) = _
    rw [Int.toNat_natCast, List.take_length]; rfl
  · rw [hro, List.map_append]; congr 1
    exact congrArg (fun x => [x]) (ins_read b0 b1 b2 b3 b4 b5 b6 b7)
end Go.Proofs.Ytfbocpbeogkapaa
