/- A part of a proof: functions of the program, walked over the abstract machine. -/
import Derived.Test.YtfbocpbeogkapaaInstr3
set_option linter.unusedVariables false
set_option linter.unusedSimpArgs false
namespace Go.Proofs.Ytfbocpbeogkapaa
open Go Go.Am Go.Proofs
attribute [local irreducible] W WL DL WO RoundEnd
set_option maxRecDepth 10000
set_option maxHeartbeats 4000000
theorem insOf_ok (b0 b1 b2 b3 b4 b5 b6 b7 : UInt8) : (insOf b0 b1 b2 b3 b4 b5 b6 b7).ok ∧ (insOf b0 b1 b2 b3 b4 b5 b6 b7).right = true := by
  have l0 := u8_lt b0
  have l1 := u8_lt b1
  have l2 := u8_lt b2
  have l3 := u8_lt b3
  have l4 := u8_lt b4
  have l5 := u8_lt b5
  have l6 := u8_lt b6
  have l7 := u8_lt b7
  refine ⟨⟨?_, ?_⟩, ?_⟩
  · simp only [insOf]; omega
  · simp only [insOf]; omega
  · unfold Ins.right; exact decide_eq_true (by simp only [insOf]; omega)
theorem decode_all : ∀ bs : List UInt8, (decode bs).all Ins.right = true
  | b0 :: b1 :: b2 :: b3 :: b4 :: b5 :: b6 :: b7 :: r => by
    simp only [decode, List.all_cons, (insOf_ok _ _ _ _ _ _ _ _).2, decode_all r, Bool.and_self]
  | [] => rfl
  | [_] => rfl
  | [_, _] => rfl
  | [_, _, _] => rfl
  | [_, _, _, _] => rfl
  | [_, _, _, _, _] => rfl
  | [_, _, _, _, _, _] => rfl
  | [_, _, _, _, _, _, _] => rfl
theorem decode_length : ∀ bs : List UInt8, (decode bs).length = bs.length / 8
  | b0 :: b1 :: b2 :: b3 :: b4 :: b5 :: b6 :: b7 :: r => by
    simp only [decode, List.length_cons, decode_length r]; omega
  | [] => by simp [decode]
  | [_] => by simp [decode]
  | [_, _] => by simp [decode]
  | [_, _, _] => by simp [decode]
  | [_, _, _, _] => by simp [decode]
  | [_, _, _, _, _] => by simp [decode]
  | [_, _, _, _, _, _] => by simp [decode]
  | [_, _, _, _, _, _, _] => by simp [decode]
theorem u8_byte (b : UInt8) (n : Nat) : u8 ((b.toNat + 256 * n : Nat) : Int) = b := by
  have l0 := u8_lt b
  apply UInt8.toNat_inj.1
  have := u8_toNat ((b.toNat + 256 * n : Nat) : Int)
  omega
theorem insOf_bytes (b0 b1 b2 b3 b4 b5 b6 b7 : UInt8) : (insOf b0 b1 b2 b3 b4 b5 b6 b7).bytes = [b0, b1, b2, b3, b4, b5, b6, b7] := by
  have l0 := u8_lt b0
  have l4 := u8_lt b4
  have l5 := u8_lt b5
  have l6 := u8_lt b6
  simp only [Ins.bytes, insOf]
  refine congr (congrArg _ ?_) (congr (congrArg _ ?_) (congr (congrArg _ ?_) (congr (congrArg _ ?_) (congr (congrArg _ ?_) (congr (congrArg _ ?_) (congr (congrArg _ ?_) (congr (congrArg _ ?_) rfl)))))))
  · exact u8_byte _ _
  · rw [show ((b0.toNat + 256 * b1.toNat : Nat) : Int) / 256 = ((b1.toNat + 256 * 0 : Nat) : Int) from by omega]; exact u8_byte _ _
  · exact u8_byte b2 0
  · exact u8_byte b3 0
  · rw [show ((b4.toNat + 256 * b5.toNat + 65536 * b6.toNat + 16777216 * b7.toNat : Nat) : Int) = ((b4.toNat + 256 * (b5.toNat + 256 * b6.toNat + 65536 * b7.toNat) : Nat) : Int) from by omega]; exact u8_byte _ _
  · rw [show ((b4.toNat + 256 * b5.toNat + 65536 * b6.toNat + 16777216 * b7.toNat : Nat) : Int) / 256 = ((b5.toNat + 256 * (b6.toNat + 256 * b7.toNat) : Nat) : Int) from by omega]; exact u8_byte _ _
  · rw [show ((b4.toNat + 256 * b5.toNat + 65536 * b6.toNat + 16777216 * b7.toNat : Nat) : Int) / 65536 = ((b6.toNat + 256 * b7.toNat : Nat) : Int) from by omega]; exact u8_byte _ _
  · rw [show ((b4.toNat + 256 * b5.toNat + 65536 * b6.toNat + 16777216 * b7.toNat : Nat) : Int) / 16777216 = ((b7.toNat + 256 * 0 : Nat) : Int) from by omega]; exact u8_byte _ _
theorem decode_bytes : ∀ bs : List UInt8, bs.length % 8 = 0 → (decode bs).flatMap Ins.bytes = bs
  | b0 :: b1 :: b2 :: b3 :: b4 :: b5 :: b6 :: b7 :: r, h => by
    simp only [decode, List.flatMap_cons, insOf_bytes, decode_bytes r (by simp at h; omega)]; rfl
  | [], _ => rfl
  | [_], h => by simp at h
  | [_, _], h => by simp at h
  | [_, _, _], h => by simp at h
  | [_, _, _, _], h => by simp at h
  | [_, _, _, _, _], h => by simp at h
  | [_, _, _, _, _, _], h => by simp at h
  | [_, _, _, _, _, _, _], h => by simp at h
theorem encode_decode {bs : List UInt8} (h : bs.length % 8 = 0) : encode (decode bs) = bs := by
  rw [encode, decode_all]; exact decode_bytes bs h
theorem insOf_self {x : Ins} (hx : x.right = true) (hk : x.ok) : insOf (u8 x.code) (u8 (x.code / 256)) (u8 x.jt) (u8 x.jf) (u8 x.k) (u8 (x.k / 256)) (u8 (x.k / 65536)) (u8 (x.k / 16777216)) = x := by
  simp only [Ins.right, decide_eq_true_eq] at hx
  obtain ⟨h0, h1⟩ := hk
  have a0 := u8_toNat x.code
  have a1 := u8_toNat (x.code / 256)
  have a2 := u8_toNat x.jt
  have a3 := u8_toNat x.jf
  have a4 := u8_toNat x.k
  have a5 := u8_toNat (x.k / 256)
  have a6 := u8_toNat (x.k / 65536)
  have a7 := u8_toNat (x.k / 16777216)
  obtain ⟨c, t, f, k⟩ := x
  simp only [insOf, Ins.mk.injEq] at *
  omega
theorem decode_encode : ∀ l : List Ins, l.all Ins.right = true → (∀ x ∈ l, x.ok) → decode (l.flatMap Ins.bytes) = l
  | [], _, _ => rfl
  | x :: l, h, hk => by
    simp only [List.all_cons, Bool.and_eq_true] at h
    rw [List.flatMap_cons, Ins.bytes]
    simp only [List.cons_append, List.nil_append, decode]
    rw [insOf_self h.1 (hk x (by simp)), decode_encode l h.2 fun y hy => hk y (by simp [hy])]
theorem eqb_self (x : Ins) : x.eqb x = true := by simp [Ins.eqb]
theorem sameL_self : ∀ l : List Ins, sameL l l = true
  | [] => rfl
  | x :: l => by simp [sameL, eqb_self, sameL_self l]
theorem encode_len (l : List Ins) : (encode l).length = 8 * l.length ∨ encode l = [] := by
  unfold encode
  cases l.all Ins.right with
  | true => exact .inl (bytes_length l)
  | false => exact .inr rfl
theorem encode_mod (l : List Ins) : (encode l).length % 8 = 0 := by
  rcases encode_len l with h | h <;> rw [h]
  · omega
  · rfl
theorem readR_ok {bs : List UInt8} (h : bs.length % 8 = 0) : readR bs = (decode bs, 0) := by unfold readR; rw [h]; rfl
theorem readR_bad {bs : List UInt8} (h : bs.length % 8 ≠ 0) : readR bs = ([], 2) := by
  unfold readR
  cases hb : Nat.beq (bs.length % 8) 0 with
  | true => exact absurd (Nat.eq_of_beq_eq_true hb) h
  | false => rfl
theorem same_self (l : List Ins) (h : l.length < 2 ^ 60) : Comp Try.prog 14 [lst Ins.row l, lst Ins.row l] (bool true) := sameL_self l ▸ sameI l l h
theorem read_ok {bs : List UInt8} (hl : bs.length ≤ 2 ^ 40) (h : bs.length % 8 = 0) : Comp Try.prog 11 [bytesV bs] (.tup [.one (.d (.list ((decode bs).map Ins.row))), .one (.d (.sc (.int .i64 0)))]) := by
  have := read bs hl
  rw [readR_ok h] at this; exact this
theorem read_bad {bs : List UInt8} (hl : bs.length ≤ 2 ^ 40) (h : bs.length % 8 ≠ 0) : Comp Try.prog 11 [bytesV bs] (.tup [.one (.d (.list [])), .one (.d (.sc (.int .i64 2)))]) := by
  have := read bs hl
  rw [readR_bad h] at this; exact this
theorem readI_ok {bs : List UInt8} (hl : bs.length ≤ 2 ^ 40) (h : bs.length % 8 = 0) : Comp Try.prog 12 [bytesV bs] (.tup [.one (.d (.list ((decode bs).map Ins.row))), .one (.d (.sc (.int .i64 0)))]) := by
  have := readI bs hl
  rw [readR_ok h] at this; exact this
theorem readI_bad {bs : List UInt8} (hl : bs.length ≤ 2 ^ 40) (h : bs.length % 8 ≠ 0) : Comp Try.prog 12 [bytesV bs] (.tup [.one (.d (.list [])), .one (.d (.sc (.int .i64 2)))]) := by
  have := readI bs hl
  rw [readR_bad h] at this; exact this
theorem tells (l : List Ins) (bs : List UInt8) (hk : ∀ x ∈ l, x.ok) : Comp Try.prog 3 [lst Ins.row l, bytesV bs] (bool true) := by
  refine Spec.body (C := cx [] 89) fits (fn := Try.f3) Try.func3 rfl (by decide) (by decide) (gI ?_)
  repeat' (first
    | ((first | refine gC fits mixed ?_ | refine gC0 fits mixed ?_ | refine gO fits mixed ?_ | refine gR fits mixed ?_); (conv => whnf); first | (refine ⟨fun hb => ?_, fun hb => ?_⟩ <;> try first | (simp only [Bool.not_true, Bool.not_false, Bool.true_eq_false, Bool.false_eq_true, reduceCtorEq] at hb; done) | (simp only [decide_eq_true_eq, decide_eq_false_iff_not, beq_iff_eq, beq_eq_false_iff_ne, bne_iff_ne, bne_eq_false_iff_eq, ne_eq, List.length_map, List.length_cons, List.length_nil, List.length_append, Bool.not_eq_true', Bool.not_eq_false'] at hb; exfalso; omega) | (exfalso; simp [ba_beq, IntKind.wrap, IntKind.bits, IntKind.signed] at hb; done)) | (show W _ _ _ _ _) | (show ∀ k, WL _ _ _ k _ _ _) | (show ∀ k, DL _ _ _ k _ _ _ _) | (show RoundEnd _ _ _ _ _) | refine fR ?_)
    | (show ∀ k, WL _ _ _ k _ _ _; first | refine fun k => lC (alive1) (oW ?_ _) | refine fun k => lSA fits (oW ?_ _) | refine fun k => lL fits (oW ?_ _) | refine fun k => lQ fits (oW ?_ _) | refine fun k => lX fits (oW ?_ _) | refine fun k => lXa fits (oW ?_ _) | refine fun k => lK fits (oW ?_ _) | refine fun k => lKa fits (oW ?_ _) | refine fun k => lLk fits (oW ?_ _) | refine fun k => lUp fits (oW ?_ _) | refine fun k => lDel fits (oW ?_ _) | refine fun k => lSt fits (oW ?_ _) | refine fun k => lM fits (oW ?_ _) | refine fun k => lA fits (oW ?_ _) | refine fun k => lA0 fits (oW ?_ _) | refine fun k => lA1 fits (oW ?_ _) | refine fun k => lMk fits (oW ?_ _) | refine fun k => lW fits (oW ?_ _)))
  · exact ⟨rfl, rfl⟩
  · exact ⟨rfl, rfl⟩
  have h2 : ¬ (((l.map Ins.row).length : Int) > 200) := of_decide_eq_false (by assumption)
  have h1 : ¬ (((bs.map u8row).length : Int) > 1000) := of_decide_eq_false (by assumption)
  rw [List.length_map] at h1 h2
  have hE := encode_len l
  have hel : (encode l).length ≤ 8 * l.length := by rcases hE with h | h <;> rw [h] <;> simp
  have hdl := decode_length bs
  by_cases h8 : bs.length % 8 = 0
  · have hbb := bytesC (decode bs) (by omega)
    rw [encode_decode h8] at hbb
    by_cases hr : l.all Ins.right = true
    · have hde : decode (encode l) = l := by rw [encode, hr]; exact decode_encode l hr hk
      have hrd := read_ok (bs := encode l) (by omega) (encode_mod l)
      rw [hde] at hrd
      repeat' (first
    | ((first | refine gC fits mixed ?_ | refine gC0 fits mixed ?_ | refine gO fits mixed ?_ | refine gR fits mixed ?_); (conv => whnf); first | (refine ⟨fun hb => ?_, fun hb => ?_⟩ <;> try first | (simp only [Bool.not_true, Bool.not_false, Bool.true_eq_false, Bool.false_eq_true, reduceCtorEq] at hb; done) | (simp only [decide_eq_true_eq, decide_eq_false_iff_not, beq_iff_eq, beq_eq_false_iff_ne, bne_iff_ne, bne_eq_false_iff_eq, ne_eq, List.length_map, List.length_cons, List.length_nil, List.length_append, Bool.not_eq_true', Bool.not_eq_false'] at hb; exfalso; omega) | (exfalso; simp [ba_beq, IntKind.wrap, IntKind.bits, IntKind.signed] at hb; done)) | (show W _ _ _ _ _) | (show ∀ k, WL _ _ _ k _ _ _) | (show ∀ k, DL _ _ _ k _ _ _ _) | (show RoundEnd _ _ _ _ _) | refine fR ?_)
    | (show ∀ k, WL _ _ _ k _ _ _; first | refine fun k => lC (bytesC l (by omega)) (oW ?_ _) | refine fun k => lC (bytesR l (by omega) hk) (oW ?_ _) | refine fun k => lC (num _) (oW ?_ _) | refine fun k => lC (read_ok (bs := bs) (by omega) h8) (oW ?_ _) | refine fun k => lC (readI_ok (bs := bs) (by omega) h8) (oW ?_ _) | refine fun k => lC (same_self (decode bs) (by omega)) (oW ?_ _) | refine fun k => lC (hrd) (oW ?_ _) | refine fun k => lC (hbb) (oW ?_ _) | refine fun k => lC (same_self l (by omega)) (oW ?_ _) | refine fun k => lSA fits (oW ?_ _) | refine fun k => lL fits (oW ?_ _) | refine fun k => lQ fits (oW ?_ _) | refine fun k => lX fits (oW ?_ _) | refine fun k => lXa fits (oW ?_ _) | refine fun k => lK fits (oW ?_ _) | refine fun k => lKa fits (oW ?_ _) | refine fun k => lLk fits (oW ?_ _) | refine fun k => lUp fits (oW ?_ _) | refine fun k => lDel fits (oW ?_ _) | refine fun k => lSt fits (oW ?_ _) | refine fun k => lM fits (oW ?_ _) | refine fun k => lA fits (oW ?_ _) | refine fun k => lA0 fits (oW ?_ _) | refine fun k => lA1 fits (oW ?_ _) | refine fun k => lMk fits (oW ?_ _) | refine fun k => lW fits (oW ?_ _))
    | (show ∀ k, DL _ _ _ k _ _ _ _; first | refine fun k => dC (bytesC l (by omega)) (oD ?_ _) | refine fun k => dC (bytesR l (by omega) hk) (oD ?_ _) | refine fun k => dC (num _) (oD ?_ _) | refine fun k => dC (read_ok (bs := bs) (by omega) h8) (oD ?_ _) | refine fun k => dC (readI_ok (bs := bs) (by omega) h8) (oD ?_ _) | refine fun k => dC (same_self (decode bs) (by omega)) (oD ?_ _) | refine fun k => dC (hrd) (oD ?_ _) | refine fun k => dC (hbb) (oD ?_ _) | refine fun k => dC (same_self l (by omega)) (oD ?_ _) | refine fun k => dSA fits (oD ?_ _) | refine fun k => dL fits (oD ?_ _) | refine fun k => dQ fits (oD ?_ _) | refine fun k => dX fits (oD ?_ _) | refine fun k => dK fits (oD ?_ _) | refine fun k => dKa fits (oD ?_ _) | refine fun k => dLk fits (oD ?_ _) | refine fun k => dUp fits (oD ?_ _) | refine fun k => dA fits (oD ?_ _) | refine fun k => dA0 fits (oD ?_ _) | refine fun k => dSt fits (oD ?_ _) | refine fun k => dM fits (oD ?_ _) | refine fun k => dN fits (oD ?_ _) | refine fun k => dW fits (oD ?_ _)))
      all_goals exact ⟨rfl, rfl⟩
    · have he0 : encode l = [] := by unfold encode; rw [Bool.eq_false_iff.2 hr]; rfl
      have hb1 := bytesC l (by omega)
      rw [he0] at hb1
      have hb2 := bytesR l (by omega) hk
      rw [he0] at hb2
      repeat' (first
    | ((first | refine gC fits mixed ?_ | refine gC0 fits mixed ?_ | refine gO fits mixed ?_ | refine gR fits mixed ?_); (conv => whnf); first | (refine ⟨fun hb => ?_, fun hb => ?_⟩ <;> try first | (simp only [Bool.not_true, Bool.not_false, Bool.true_eq_false, Bool.false_eq_true, reduceCtorEq] at hb; done) | (simp only [decide_eq_true_eq, decide_eq_false_iff_not, beq_iff_eq, beq_eq_false_iff_ne, bne_iff_ne, bne_eq_false_iff_eq, ne_eq, List.length_map, List.length_cons, List.length_nil, List.length_append, Bool.not_eq_true', Bool.not_eq_false'] at hb; exfalso; omega) | (exfalso; simp [ba_beq, IntKind.wrap, IntKind.bits, IntKind.signed] at hb; done)) | (show W _ _ _ _ _) | (show ∀ k, WL _ _ _ k _ _ _) | (show ∀ k, DL _ _ _ k _ _ _ _) | (show RoundEnd _ _ _ _ _) | refine fR ?_)
    | (show ∀ k, WL _ _ _ k _ _ _; first | refine fun k => lC (hb1) (oW ?_ _) | refine fun k => lC (hb2) (oW ?_ _) | refine fun k => lC (num _) (oW ?_ _) | refine fun k => lC (read_ok (bs := bs) (by omega) h8) (oW ?_ _) | refine fun k => lC (readI_ok (bs := bs) (by omega) h8) (oW ?_ _) | refine fun k => lC (same_self (decode bs) (by omega)) (oW ?_ _) | refine fun k => lC (read0) (oW ?_ _) | refine fun k => lC (hbb) (oW ?_ _) | refine fun k => lC (same_self l (by omega)) (oW ?_ _) | refine fun k => lSA fits (oW ?_ _) | refine fun k => lL fits (oW ?_ _) | refine fun k => lQ fits (oW ?_ _) | refine fun k => lX fits (oW ?_ _) | refine fun k => lXa fits (oW ?_ _) | refine fun k => lK fits (oW ?_ _) | refine fun k => lKa fits (oW ?_ _) | refine fun k => lLk fits (oW ?_ _) | refine fun k => lUp fits (oW ?_ _) | refine fun k => lDel fits (oW ?_ _) | refine fun k => lSt fits (oW ?_ _) | refine fun k => lM fits (oW ?_ _) | refine fun k => lA fits (oW ?_ _) | refine fun k => lA0 fits (oW ?_ _) | refine fun k => lA1 fits (oW ?_ _) | refine fun k => lMk fits (oW ?_ _) | refine fun k => lW fits (oW ?_ _))
    | (show ∀ k, DL _ _ _ k _ _ _ _; first | refine fun k => dC (hb1) (oD ?_ _) | refine fun k => dC (hb2) (oD ?_ _) | refine fun k => dC (num _) (oD ?_ _) | refine fun k => dC (read_ok (bs := bs) (by omega) h8) (oD ?_ _) | refine fun k => dC (readI_ok (bs := bs) (by omega) h8) (oD ?_ _) | refine fun k => dC (same_self (decode bs) (by omega)) (oD ?_ _) | refine fun k => dC (read0) (oD ?_ _) | refine fun k => dC (hbb) (oD ?_ _) | refine fun k => dC (same_self l (by omega)) (oD ?_ _) | refine fun k => dSA fits (oD ?_ _) | refine fun k => dL fits (oD ?_ _) | refine fun k => dQ fits (oD ?_ _) | refine fun k => dX fits (oD ?_ _) | refine fun k => dK fits (oD ?_ _) | refine fun k => dKa fits (oD ?_ _) | refine fun k => dLk fits (oD ?_ _) | refine fun k => dUp fits (oD ?_ _) | refine fun k => dA fits (oD ?_ _) | refine fun k => dA0 fits (oD ?_ _) | refine fun k => dSt fits (oD ?_ _) | refine fun k => dM fits (oD ?_ _) | refine fun k => dN fits (oD ?_ _) | refine fun k => dW fits (oD ?_ _)))
      all_goals exact ⟨rfl, rfl⟩
  · repeat' (first
    | ((first | refine gC fits mixed ?_ | refine gC0 fits mixed ?_ | refine gO fits mixed ?_ | refine gR fits mixed ?_); (conv => whnf); first | (refine ⟨fun hb => ?_, fun hb => ?_⟩ <;> try first | (simp only [Bool.not_true, Bool.not_false, Bool.true_eq_false, Bool.false_eq_true, reduceCtorEq] at hb; done) | (simp only [decide_eq_true_eq, decide_eq_false_iff_not, beq_iff_eq, beq_eq_false_iff_ne, bne_iff_ne, bne_eq_false_iff_eq, ne_eq, List.length_map, List.length_cons, List.length_nil, List.length_append, Bool.not_eq_true', Bool.not_eq_false'] at hb; exfalso; omega) | (exfalso; simp [ba_beq, IntKind.wrap, IntKind.bits, IntKind.signed] at hb; done)) | (show W _ _ _ _ _) | (show ∀ k, WL _ _ _ k _ _ _) | (show ∀ k, DL _ _ _ k _ _ _ _) | (show RoundEnd _ _ _ _ _) | refine fR ?_)
    | (show ∀ k, WL _ _ _ k _ _ _; first | refine fun k => lC (bytesC l (by omega)) (oW ?_ _) | refine fun k => lC (bytesR l (by omega) hk) (oW ?_ _) | refine fun k => lC (num _) (oW ?_ _) | refine fun k => lC (read_bad (bs := bs) (by omega) h8) (oW ?_ _) | refine fun k => lC (readI_bad (bs := bs) (by omega) h8) (oW ?_ _) | refine fun k => lC (same_self [] (by decide)) (oW ?_ _) | refine fun k => lC (read (encode l) (by omega)) (oW ?_ _) | refine fun k => lSA fits (oW ?_ _) | refine fun k => lL fits (oW ?_ _) | refine fun k => lQ fits (oW ?_ _) | refine fun k => lX fits (oW ?_ _) | refine fun k => lXa fits (oW ?_ _) | refine fun k => lK fits (oW ?_ _) | refine fun k => lKa fits (oW ?_ _) | refine fun k => lLk fits (oW ?_ _) | refine fun k => lUp fits (oW ?_ _) | refine fun k => lDel fits (oW ?_ _) | refine fun k => lSt fits (oW ?_ _) | refine fun k => lM fits (oW ?_ _) | refine fun k => lA fits (oW ?_ _) | refine fun k => lA0 fits (oW ?_ _) | refine fun k => lA1 fits (oW ?_ _) | refine fun k => lMk fits (oW ?_ _) | refine fun k => lW fits (oW ?_ _))
    | (show ∀ k, DL _ _ _ k _ _ _ _; first | refine fun k => dC (bytesC l (by omega)) (oD ?_ _) | refine fun k => dC (bytesR l (by omega) hk) (oD ?_ _) | refine fun k => dC (num _) (oD ?_ _) | refine fun k => dC (read_bad (bs := bs) (by omega) h8) (oD ?_ _) | refine fun k => dC (readI_bad (bs := bs) (by omega) h8) (oD ?_ _) | refine fun k => dC (same_self [] (by decide)) (oD ?_ _) | refine fun k => dC (read (encode l) (by omega)) (oD ?_ _) | refine fun k => dSA fits (oD ?_ _) | refine fun k => dL fits (oD ?_ _) | refine fun k => dQ fits (oD ?_ _) | refine fun k => dX fits (oD ?_ _) | refine fun k => dK fits (oD ?_ _) | refine fun k => dKa fits (oD ?_ _) | refine fun k => dLk fits (oD ?_ _) | refine fun k => dUp fits (oD ?_ _) | refine fun k => dA fits (oD ?_ _) | refine fun k => dA0 fits (oD ?_ _) | refine fun k => dSt fits (oD ?_ _) | refine fun k => dM fits (oD ?_ _) | refine fun k => dN fits (oD ?_ _) | refine fun k => dW fits (oD ?_ _)))
    all_goals exact ⟨rfl, rfl⟩
end Go.Proofs.Ytfbocpbeogkapaa
