/- A part of a proof: functions of the program, walked over the abstract machine. -/
import Derived.Test.YtfbocpbeogkapaaInstr2
set_option linter.unusedVariables false
set_option linter.unusedSimpArgs false
namespace Go.Proofs.Ytfbocpbeogkapaa
open Go Go.Am Go.Proofs
attribute [local irreducible] W WL DL WO RoundEnd
set_option maxRecDepth 10000
set_option maxHeartbeats 4000000
theorem rightR (x : Ins) : Comp Try.prog 24 [.agg x.cells] (bool x.right) := by
  refine Spec.body (C := cx [] 31) fits (fn := Try.f24) Try.func24 rfl (by decide) (by decide) (gI ?_)
  repeat' (first
    | ((first | refine gC fits mixed ?_ | refine gC0 fits mixed ?_ | refine gO fits mixed ?_ | refine gR fits mixed ?_); (conv => whnf); first | (refine ⟨fun hb => ?_, fun hb => ?_⟩ <;> try first | (simp only [Bool.not_true, Bool.not_false, Bool.true_eq_false, Bool.false_eq_true, reduceCtorEq] at hb; done) | (simp only [decide_eq_true_eq, decide_eq_false_iff_not, beq_iff_eq, beq_eq_false_iff_ne, bne_iff_ne, bne_eq_false_iff_eq, ne_eq, List.length_map, List.length_cons, List.length_nil, List.length_append, Bool.not_eq_true', Bool.not_eq_false'] at hb; exfalso; omega) | (exfalso; simp [ba_beq, IntKind.wrap, IntKind.bits, IntKind.signed] at hb; done)) | (show W _ _ _ _ _) | (show ∀ k, WL _ _ _ k _ _ _) | (show ∀ k, DL _ _ _ k _ _ _ _) | (show RoundEnd _ _ _ _ _) | refine fR ?_)
    | (show ∀ k, WL _ _ _ k _ _ _; first | refine fun k => lSA fits (oW ?_ _) | refine fun k => lL fits (oW ?_ _) | refine fun k => lQ fits (oW ?_ _) | refine fun k => lX fits (oW ?_ _) | refine fun k => lXa fits (oW ?_ _) | refine fun k => lK fits (oW ?_ _) | refine fun k => lKa fits (oW ?_ _) | refine fun k => lLk fits (oW ?_ _) | refine fun k => lUp fits (oW ?_ _) | refine fun k => lDel fits (oW ?_ _) | refine fun k => lSt fits (oW ?_ _) | refine fun k => lM fits (oW ?_ _) | refine fun k => lA fits (oW ?_ _) | refine fun k => lA0 fits (oW ?_ _) | refine fun k => lA1 fits (oW ?_ _) | refine fun k => lMk fits (oW ?_ _) | refine fun k => lW fits (oW ?_ _)))
  all_goals
    refine ⟨?_, rfl⟩
    simp only [decide_eq_true_eq, decide_eq_false_iff_not] at *
    unfold Ins.right
    first
      | (rw [decide_eq_true (by omega)]; rfl)
      | (rw [decide_eq_false (by omega)]; rfl)
/-- the number of an instruction lies in its kind -/
def Ins.ok (x : Ins) : Prop := 0 ≤ x.k ∧ x.k < 4294967296
theorem bytesR (l : List Ins) (hl : 8 * l.length ≤ 2 ^ 46) (hk : ∀ x ∈ l, x.ok) : Comp Try.prog 13 [lst Ins.row l] (bytesV (encode l)) := by
  rw [← encL_nil]
  refine Spec.body (C := cx [(3, false)] 55) fits (fn := Try.f13) Try.func13 rfl (by decide) (by decide) (gI ?_)
  repeat' (first
    | ((first | refine gC fits mixed ?_ | refine gC0 fits mixed ?_ | refine gO fits mixed ?_ | refine gR fits mixed ?_); (conv => whnf); first | (refine ⟨fun hb => ?_, fun hb => ?_⟩ <;> try first | (simp only [Bool.not_true, Bool.not_false, Bool.true_eq_false, Bool.false_eq_true, reduceCtorEq] at hb; done) | (simp only [decide_eq_true_eq, decide_eq_false_iff_not, beq_iff_eq, beq_eq_false_iff_ne, bne_iff_ne, bne_eq_false_iff_eq, ne_eq, List.length_map, List.length_cons, List.length_nil, List.length_append, Bool.not_eq_true', Bool.not_eq_false'] at hb; exfalso; omega) | (exfalso; simp [ba_beq, IntKind.wrap, IntKind.bits, IntKind.signed] at hb; done)) | (show W _ _ _ _ _) | (show ∀ k, WL _ _ _ k _ _ _) | (show ∀ k, DL _ _ _ k _ _ _ _) | (show RoundEnd _ _ _ _ _) | refine fR ?_)
    | (show ∀ k, WL _ _ _ k _ _ _; first | refine fun k => lSA fits (oW ?_ _) | refine fun k => lL fits (oW ?_ _) | refine fun k => lQ fits (oW ?_ _) | refine fun k => lX fits (oW ?_ _) | refine fun k => lXa fits (oW ?_ _) | refine fun k => lK fits (oW ?_ _) | refine fun k => lKa fits (oW ?_ _) | refine fun k => lLk fits (oW ?_ _) | refine fun k => lUp fits (oW ?_ _) | refine fun k => lDel fits (oW ?_ _) | refine fun k => lSt fits (oW ?_ _) | refine fun k => lM fits (oW ?_ _) | refine fun k => lA fits (oW ?_ _) | refine fun k => lA0 fits (oW ?_ _) | refine fun k => lA1 fits (oW ?_ _) | refine fun k => lMk fits (oW ?_ _) | refine fun k => lW fits (oW ?_ _)))
  refine wLoop [0, 2, 3, 4] 1 (l.length + 1) ?_
  refine (fun key => key l [] [] _ _ rfl rfl rfl rfl rfl : (∀ (rest done : List Ins) (out : List UInt8) (j : Int) (rows : List (List D)), l = done ++ rest → j = done.length → rows = out.map u8row → encL rest out = encL l [] → out.length = 8 * done.length →
    WR2 _ _ _ _ _ (rest.length + 1) [(0, lst Ins.row l), (2, nilV), (3, .one (.arr 0 0 rows.length)), (4, int .i64 j)] [.arr 0 false 1 rows]) → _) ?_
  intro rest
  induction rest with
  | nil =>
    intro done out j rows hl hj hr he hn
    have hlen : l.length = done.length := by subst hl; simp
    refine wR (gI ?_)
    repeat' (first
    | ((first | refine gC fits mixed ?_ | refine gC0 fits mixed ?_ | refine gO fits mixed ?_ | refine gR fits mixed ?_); (conv => whnf); first | (refine ⟨fun hb => ?_, fun hb => ?_⟩ <;> try first | (simp only [Bool.not_true, Bool.not_false, Bool.true_eq_false, Bool.false_eq_true, reduceCtorEq] at hb; done) | (simp only [decide_eq_true_eq, decide_eq_false_iff_not, beq_iff_eq, beq_eq_false_iff_ne, bne_iff_ne, bne_eq_false_iff_eq, ne_eq, List.length_map, List.length_cons, List.length_nil, List.length_append, Bool.not_eq_true', Bool.not_eq_false'] at hb; exfalso; omega) | (exfalso; simp [ba_beq, IntKind.wrap, IntKind.bits, IntKind.signed] at hb; done)) | (show W _ _ _ _ _) | (show ∀ k, WL _ _ _ k _ _ _) | (show ∀ k, DL _ _ _ k _ _ _ _) | (show RoundEnd _ _ _ _ _) | refine fR ?_)
    | (show ∀ k, WL _ _ _ k _ _ _; first | refine fun k => lSA fits (oW ?_ _) | refine fun k => lL fits (oW ?_ _) | refine fun k => lQ fits (oW ?_ _) | refine fun k => lX fits (oW ?_ _) | refine fun k => lXa fits (oW ?_ _) | refine fun k => lK fits (oW ?_ _) | refine fun k => lKa fits (oW ?_ _) | refine fun k => lLk fits (oW ?_ _) | refine fun k => lUp fits (oW ?_ _) | refine fun k => lDel fits (oW ?_ _) | refine fun k => lSt fits (oW ?_ _) | refine fun k => lM fits (oW ?_ _) | refine fun k => lA fits (oW ?_ _) | refine fun k => lA0 fits (oW ?_ _) | refine fun k => lA1 fits (oW ?_ _) | refine fun k => lMk fits (oW ?_ _) | refine fun k => lW fits (oW ?_ _)))
    exact ⟨by rw [hr]; show _ = V.one (.d (.list ((encL l []).map u8row))); rw [← he]; rfl, rfl⟩
  | cons x rest ih =>
    intro done out j rows hl hj hr he hn
    have hlen : l.length = done.length + (rest.length + 1) := by subst hl; simp
    have hro : rows.length = 8 * done.length := by rw [hr, List.length_map, hn]
    refine wR (gI ?_)
    repeat' (first
    | ((first | refine gC fits mixed ?_ | refine gC0 fits mixed ?_ | refine gO fits mixed ?_ | refine gR fits mixed ?_); (conv => whnf); first | (refine ⟨fun hb => ?_, fun hb => ?_⟩ <;> try first | (simp only [Bool.not_true, Bool.not_false, Bool.true_eq_false, Bool.false_eq_true, reduceCtorEq] at hb; done) | (simp only [decide_eq_true_eq, decide_eq_false_iff_not, beq_iff_eq, beq_eq_false_iff_ne, bne_iff_ne, bne_eq_false_iff_eq, ne_eq, List.length_map, List.length_cons, List.length_nil, List.length_append, Bool.not_eq_true', Bool.not_eq_false'] at hb; exfalso; omega) | (exfalso; simp [ba_beq, IntKind.wrap, IntKind.bits, IntKind.signed] at hb; done)) | (show W _ _ _ _ _) | (show ∀ k, WL _ _ _ k _ _ _) | (show ∀ k, DL _ _ _ k _ _ _ _) | (show RoundEnd _ _ _ _ _) | refine fR ?_)
    | (show ∀ k, WL _ _ _ k _ _ _; first | (refine fun k => lCB (rightR _) (fun hx => oW ?_ _) (fun hx => oW ?_ _)) | refine fun k => lSA fits (oW ?_ _) | refine fun k => lL fits (oW ?_ _) | refine fun k => lQ fits (oW ?_ _) | refine fun k => lX fits (oW ?_ _) | refine fun k => lXa fits (oW ?_ _) | refine fun k => lK fits (oW ?_ _) | refine fun k => lKa fits (oW ?_ _) | refine fun k => lLk fits (oW ?_ _) | refine fun k => lUp fits (oW ?_ _) | refine fun k => lDel fits (oW ?_ _) | refine fun k => lSt fits (oW ?_ _) | refine fun k => lM fits (oW ?_ _) | refine fun k => lA fits (oW ?_ _) | refine fun k => lA0 fits (oW ?_ _) | refine fun k => lA1 fits (oW ?_ _) | refine fun k => lMk fits (oW ?_ _) | refine fun k => lW fits (oW ?_ _)))
    · refine rE (ih (done ++ [x]) (out ++ x.bytes) _ _ ?_ ?_ ?_ ?_ ?_)
      · simp [hl]
      · rw [wrap_ok (by omega) (by omega)]; simp [hj]
      · have hr' := hx
        simp only [Ins.right, decide_eq_true_eq] at hr'
        obtain ⟨hk0, hk1⟩ := hk x (by subst hl; simp)
        have h0 : (2 ^ min (Int.toNat 8) IntKind.i64.bits : Int) = 256 := rfl
        have h2 : (2 ^ min (Int.toNat 8) IntKind.u32.bits : Int) = 256 := rfl
        have h3 : (2 ^ min (Int.toNat 16) IntKind.u32.bits : Int) = 65536 := rfl
        have h4 : (2 ^ min (Int.toNat 24) IntKind.u32.bits : Int) = 16777216 := rfl
        rw [h0, h2, h3, h4, fdiv_pos _ 256 (by decide), fdiv_pos _ 256 (by decide), fdiv_pos _ 65536 (by decide), fdiv_pos _ 16777216 (by decide),
          and64 (n := x.code) (by omega) (by omega), and32 (n := x.k) (by omega) (by omega), and32 (n := x.k / 256) (by omega) (by omega), and32 (n := x.k / 65536) (by omega) (by omega)]
        simp only [u8row_wrap, u8_mod, hr, List.map_append]
        rfl
      · rw [← he]; simp [encL, hx]
      · simp [hn, Ins.bytes]; omega
    · refine ⟨?_, rfl⟩
      rw [← he]; simp [encL, hx]; rfl
def Ins.eqb (x y : Ins) : Bool := x.code == y.code && (x.jt == y.jt && (x.jf == y.jf && (x.k == y.k && true)))
def sameL : List Ins → List Ins → Bool
  | [], [] => true
  | x :: l, y :: m => x.eqb y && sameL l m
  | _, _ => false
theorem sameL_len : ∀ {l m : List Ins}, l.length ≠ m.length → sameL l m = false
  | [], [], h => absurd rfl h
  | [], _ :: _, _ => rfl
  | _ :: _, [], _ => rfl
  | x :: l, y :: m, h => by simp only [sameL]; rw [sameL_len (by simpa using h)]; simp
theorem sameI (l m : List Ins) (hlb : l.length < 2 ^ 60) : Comp Try.prog 14 [lst Ins.row l, lst Ins.row m] (bool (sameL l m)) := by
  refine Spec.body (C := cx [] 26) fits (fn := Try.f14) Try.func14 rfl (by decide) (by decide) (gI ?_)
  repeat' (first
    | ((first | refine gC fits mixed ?_ | refine gC0 fits mixed ?_ | refine gO fits mixed ?_ | refine gR fits mixed ?_); (conv => whnf); first | (refine ⟨fun hb => ?_, fun hb => ?_⟩ <;> try first | (simp only [Bool.not_true, Bool.not_false, Bool.true_eq_false, Bool.false_eq_true, reduceCtorEq] at hb; done) | (simp only [decide_eq_true_eq, decide_eq_false_iff_not, beq_iff_eq, beq_eq_false_iff_ne, bne_iff_ne, bne_eq_false_iff_eq, ne_eq, List.length_map, List.length_cons, List.length_nil, List.length_append, Bool.not_eq_true', Bool.not_eq_false'] at hb; exfalso; omega) | (exfalso; simp [ba_beq, IntKind.wrap, IntKind.bits, IntKind.signed] at hb; done)) | (show W _ _ _ _ _) | (show ∀ k, WL _ _ _ k _ _ _) | (show ∀ k, DL _ _ _ k _ _ _ _) | (show RoundEnd _ _ _ _ _) | refine fR ?_)
    | (show ∀ k, WL _ _ _ k _ _ _; first | refine fun k => lSA fits (oW ?_ _) | refine fun k => lL fits (oW ?_ _) | refine fun k => lQ fits (oW ?_ _) | refine fun k => lX fits (oW ?_ _) | refine fun k => lXa fits (oW ?_ _) | refine fun k => lK fits (oW ?_ _) | refine fun k => lKa fits (oW ?_ _) | refine fun k => lLk fits (oW ?_ _) | refine fun k => lUp fits (oW ?_ _) | refine fun k => lDel fits (oW ?_ _) | refine fun k => lSt fits (oW ?_ _) | refine fun k => lM fits (oW ?_ _) | refine fun k => lA fits (oW ?_ _) | refine fun k => lA0 fits (oW ?_ _) | refine fun k => lA1 fits (oW ?_ _) | refine fun k => lMk fits (oW ?_ _) | refine fun k => lW fits (oW ?_ _)))
  · refine ⟨?_, rfl⟩
    simp at hb
    rw [sameL_len (by omega)]; rfl
  simp at hb
  refine wLoop [0, 1, 5] 0 (l.length + 1) ?_
  refine (fun key => key l m [] [] _ rfl rfl rfl rfl (by omega) rfl : (∀ (r1 r2 d1 d2 : List Ins) (j : Int), l = d1 ++ r1 → m = d2 ++ r2 → j = d1.length → j = d2.length → r1.length = r2.length → sameL l m = sameL r1 r2 →
    WR2 _ _ _ _ _ (r1.length + 1) [(0, lst Ins.row l), (1, lst Ins.row m), (5, int .i64 j)] []) → _) ?_
  intro r1
  induction r1 with
  | nil =>
    intro r2 d1 d2 j h1 h2 hj hj2 hr hs
    have hlen : l.length = d1.length := by subst h1; simp
    have : r2 = [] := List.length_eq_zero_iff.1 (by simpa using hr.symm)
    subst this
    refine wR (gI ?_)
    repeat' (first
    | ((first | refine gC fits mixed ?_ | refine gC0 fits mixed ?_ | refine gO fits mixed ?_ | refine gR fits mixed ?_); (conv => whnf); first | (refine ⟨fun hb => ?_, fun hb => ?_⟩ <;> try first | (simp only [Bool.not_true, Bool.not_false, Bool.true_eq_false, Bool.false_eq_true, reduceCtorEq] at hb; done) | (simp only [decide_eq_true_eq, decide_eq_false_iff_not, beq_iff_eq, beq_eq_false_iff_ne, bne_iff_ne, bne_eq_false_iff_eq, ne_eq, List.length_map, List.length_cons, List.length_nil, List.length_append, Bool.not_eq_true', Bool.not_eq_false'] at hb; exfalso; omega) | (exfalso; simp [ba_beq, IntKind.wrap, IntKind.bits, IntKind.signed] at hb; done)) | (show W _ _ _ _ _) | (show ∀ k, WL _ _ _ k _ _ _) | (show ∀ k, DL _ _ _ k _ _ _ _) | (show RoundEnd _ _ _ _ _) | refine fR ?_)
    | (show ∀ k, WL _ _ _ k _ _ _; first | refine fun k => lSA fits (oW ?_ _) | refine fun k => lL fits (oW ?_ _) | refine fun k => lQ fits (oW ?_ _) | refine fun k => lX fits (oW ?_ _) | refine fun k => lXa fits (oW ?_ _) | refine fun k => lK fits (oW ?_ _) | refine fun k => lKa fits (oW ?_ _) | refine fun k => lLk fits (oW ?_ _) | refine fun k => lUp fits (oW ?_ _) | refine fun k => lDel fits (oW ?_ _) | refine fun k => lSt fits (oW ?_ _) | refine fun k => lM fits (oW ?_ _) | refine fun k => lA fits (oW ?_ _) | refine fun k => lA0 fits (oW ?_ _) | refine fun k => lA1 fits (oW ?_ _) | refine fun k => lMk fits (oW ?_ _) | refine fun k => lW fits (oW ?_ _)))
    exact ⟨by rw [hs]; rfl, rfl⟩
  | cons x r1 ih =>
    intro r2 d1 d2 j h1 h2 hj hj2 hr hs
    rcases r2 with _ | ⟨y, r2⟩
    · simp at hr
    have hlen : l.length = d1.length + (r1.length + 1) := by subst h1; simp
    refine wR (gI ?_)
    repeat' (first
    | ((first | refine gC fits mixed ?_ | refine gC0 fits mixed ?_ | refine gO fits mixed ?_ | refine gR fits mixed ?_); (conv => whnf); first | (refine ⟨fun hb => ?_, fun hb => ?_⟩ <;> try first | (simp only [Bool.not_true, Bool.not_false, Bool.true_eq_false, Bool.false_eq_true, reduceCtorEq] at hb; done) | (simp only [decide_eq_true_eq, decide_eq_false_iff_not, beq_iff_eq, beq_eq_false_iff_ne, bne_iff_ne, bne_eq_false_iff_eq, ne_eq, List.length_map, List.length_cons, List.length_nil, List.length_append, Bool.not_eq_true', Bool.not_eq_false'] at hb; exfalso; omega) | (exfalso; simp [ba_beq, IntKind.wrap, IntKind.bits, IntKind.signed] at hb; done)) | (show W _ _ _ _ _) | (show ∀ k, WL _ _ _ k _ _ _) | (show ∀ k, DL _ _ _ k _ _ _ _) | (show RoundEnd _ _ _ _ _) | refine fR ?_)
    | (show ∀ k, WL _ _ _ k _ _ _; first | refine fun k => lSA fits (oW ?_ _) | refine fun k => lL fits (oW ?_ _) | refine fun k => lQ fits (oW ?_ _) | refine fun k => lX fits (oW ?_ _) | refine fun k => lXa fits (oW ?_ _) | refine fun k => lK fits (oW ?_ _) | refine fun k => lKa fits (oW ?_ _) | refine fun k => lLk fits (oW ?_ _) | refine fun k => lUp fits (oW ?_ _) | refine fun k => lDel fits (oW ?_ _) | refine fun k => lSt fits (oW ?_ _) | refine fun k => lM fits (oW ?_ _) | refine fun k => lA fits (oW ?_ _) | refine fun k => lA0 fits (oW ?_ _) | refine fun k => lA1 fits (oW ?_ _) | refine fun k => lMk fits (oW ?_ _) | refine fun k => lW fits (oW ?_ _))
    | (show ∀ k, DL _ _ _ k _ _ _ _; first | refine fun k => dSA fits (oD ?_ _) | refine fun k => dL fits (oD ?_ _) | refine fun k => dQ fits (oD ?_ _) | refine fun k => dX fits (oD ?_ _) | refine fun k => dK fits (oD ?_ _) | refine fun k => dKa fits (oD ?_ _) | refine fun k => dLk fits (oD ?_ _) | refine fun k => dUp fits (oD ?_ _) | refine fun k => dA fits (oD ?_ _) | refine fun k => dA0 fits (oD ?_ _) | refine fun k => dSt fits (oD ?_ _) | refine fun k => dM fits (oD ?_ _) | refine fun k => dN fits (oD ?_ _) | refine fun k => dW fits (oD ?_ _)))
    · refine ⟨?_, rfl⟩
      simp only [Bool.not_eq_true'] at hb
      rw [hs, sameL, show x.eqb y = false from hb]; rfl
    · simp only [Bool.not_eq_false'] at hb
      refine rE (ih r2 (d1 ++ [x]) (d2 ++ [y]) _ ?_ ?_ ?_ ?_ ?_ ?_)
      · simp [h1]
      · simp [h2]
      · rw [wrap_ok (by omega) (by omega)]; simp [hj]
      · rw [wrap_ok (by omega) (by omega)]; simp [hj2]
      · simpa using hr
      · rw [hs, sameL, show x.eqb y = true from hb]; rfl
theorem or32s {a b : Nat} {p : Int} (hp : p = 256) (hb : b < 256) (h : 256 * a + b < 2 ^ 32) :
    IntKind.u32.wrap ↑(BitVec.ofInt IntKind.u32.bits (IntKind.u32.wrap ((a : Int) * p)) ||| BitVec.ofInt IntKind.u32.bits (IntKind.u32.wrap (b : Int))).toNat = ((256 * a + b : Nat) : Int) := by
  have h1 : (a : Int) * p = ((2 ^ 8 * a : Nat) : Int) := by rw [hp]; omega
  rw [h1, wrap32_nat (n := 2 ^ 8 * a) (by omega), wrap32_nat (n := b) (by omega)]
  show IntKind.u32.wrap ↑(BitVec.ofInt 32 ((2 ^ 8 * a : Nat) : Int) ||| BitVec.ofInt 32 (b : Int)).toNat = _
  rw [BitVec.or_comm, or_nat 32 b a 8 (by omega) (by omega), wrap32_nat (by omega)]; omega
theorem at_off {pre l : List UInt8} {bs : List UInt8} {x : UInt8} {i : Int} {n : Nat} (hb : bs = pre ++ l) (hi : i = pre.length + n) (hx : l[n]? = some x) : (bs.map u8row)[i.toNat]? = some (u8row x) := by
  subst hb hi
  rw [show ((pre.length : Int) + (n : Int)).toNat = pre.length + n from by omega, List.map_append, List.getElem?_append_right (by simp)]
  simp [hx]
theorem readI (bs : List UInt8) (hl : bs.length ≤ 2 ^ 40) : Comp Try.prog 12 [bytesV bs] (readV (readR bs)) := by
  refine Spec.body (C := cx [(4, false)] 65) fits (fn := Try.f12) Try.func12 rfl (by decide) (by decide) (gI ?_)
  repeat' (first
    | ((first | refine gC fits mixed ?_ | refine gC0 fits mixed ?_ | refine gO fits mixed ?_ | refine gR fits mixed ?_); (conv => whnf); first | (refine ⟨fun hb => ?_, fun hb => ?_⟩ <;> try first | (simp only [Bool.not_true, Bool.not_false, Bool.true_eq_false, Bool.false_eq_true, reduceCtorEq] at hb; done) | (simp only [decide_eq_true_eq, decide_eq_false_iff_not, beq_iff_eq, beq_eq_false_iff_ne, bne_iff_ne, bne_eq_false_iff_eq, ne_eq, List.length_map, List.length_cons, List.length_nil, List.length_append, Bool.not_eq_true', Bool.not_eq_false'] at hb; exfalso; omega) | (exfalso; simp [ba_beq, IntKind.wrap, IntKind.bits, IntKind.signed] at hb; done)) | (show W _ _ _ _ _) | (show ∀ k, WL _ _ _ k _ _ _) | (show ∀ k, DL _ _ _ k _ _ _ _) | (show RoundEnd _ _ _ _ _) | refine fR ?_)
    | (show ∀ k, WL _ _ _ k _ _ _; first | refine fun k => lSA fits (oW ?_ _) | refine fun k => lL fits (oW ?_ _) | refine fun k => lQ fits (oW ?_ _) | refine fun k => lX fits (oW ?_ _) | refine fun k => lXa fits (oW ?_ _) | refine fun k => lK fits (oW ?_ _) | refine fun k => lKa fits (oW ?_ _) | refine fun k => lLk fits (oW ?_ _) | refine fun k => lUp fits (oW ?_ _) | refine fun k => lDel fits (oW ?_ _) | refine fun k => lSt fits (oW ?_ _) | refine fun k => lM fits (oW ?_ _) | refine fun k => lA fits (oW ?_ _) | refine fun k => lA0 fits (oW ?_ _) | refine fun k => lA1 fits (oW ?_ _) | refine fun k => lMk fits (oW ?_ _) | refine fun k => lW fits (oW ?_ _)))
  · rw [len_tmod] at hb
    refine ⟨?_, rfl⟩
    have hr : readR bs = ([], 2) := by
      unfold readR
      cases hb2 : Nat.beq (bs.length % 8) 0 with
      | true =>
        have := Nat.eq_of_beq_eq_true hb2
        rw [this] at hb; simp at hb
      | false => rfl
    rw [hr]; rfl
  have h8 : bs.length % 8 = 0 := by
    rw [len_tmod] at hb
    simp only [Bool.not_eq_false', beq_iff_eq] at hb; omega
  have hrr : readR bs = (decode bs, 0) := by unfold readR; rw [h8]; rfl
  refine wLoop [0, 2, 3, 4, 5] 1 (bs.length + 1) ?_
  refine (fun key => key bs.length bs [] _ [] _ rfl h8 (by simp) rfl (by simp) rfl rfl : (∀ (n : Nat) (rest pre : List UInt8) (rows : List (List D)) (out : List Ins) (j : Int), n = rest.length → n % 8 = 0 → n + 8 * out.length = bs.length → bs = pre ++ rest → decode bs = out ++ decode rest → rows = out.map Ins.row → j = pre.length →
    WR2 _ _ _ _ _ (n + 1) [(0, bytesV bs), (2, nilV), (3, int .i64 0), (4, .one (.arr 0 0 rows.length)), (5, int .i64 j)] [.arr 0 false 4 rows]) → _) ?_
  intro n
  induction n using Nat.strongRecOn with
  | _ n ih =>
  intro rest pre rows out j hn h8 hlen hpre hout hro hj
  have hrl : rows.length = out.length := by rw [hro, List.length_map]
  have hbl : bs.length = pre.length + rest.length := by rw [hpre]; simp
  rcases rest with _ | ⟨b0, _ | ⟨b1, _ | ⟨b2, _ | ⟨b3, _ | ⟨b4, _ | ⟨b5, _ | ⟨b6, _ | ⟨b7, r⟩⟩⟩⟩⟩⟩⟩⟩
  · subst hn
    refine wR (gI ?_)
    simp only [List.length_nil] at hbl
    repeat' (first
    | ((first | refine gC fits mixed ?_ | refine gC0 fits mixed ?_ | refine gO fits mixed ?_ | refine gR fits mixed ?_); (conv => whnf); first | (refine ⟨fun hb => ?_, fun hb => ?_⟩ <;> try first | (simp only [Bool.not_true, Bool.not_false, Bool.true_eq_false, Bool.false_eq_true, reduceCtorEq] at hb; done) | (simp only [decide_eq_true_eq, decide_eq_false_iff_not, beq_iff_eq, beq_eq_false_iff_ne, bne_iff_ne, bne_eq_false_iff_eq, ne_eq, List.length_map, List.length_cons, List.length_nil, List.length_append, Bool.not_eq_true', Bool.not_eq_false'] at hb; exfalso; omega) | (exfalso; simp [ba_beq, IntKind.wrap, IntKind.bits, IntKind.signed] at hb; done)) | (show W _ _ _ _ _) | (show ∀ k, WL _ _ _ k _ _ _) | (show ∀ k, DL _ _ _ k _ _ _ _) | (show RoundEnd _ _ _ _ _) | refine fR ?_)
    | (show ∀ k, WL _ _ _ k _ _ _; first | refine fun k => lSA fits (oW ?_ _) | refine fun k => lL fits (oW ?_ _) | refine fun k => lQ fits (oW ?_ _) | refine fun k => lX fits (oW ?_ _) | refine fun k => lXa fits (oW ?_ _) | refine fun k => lK fits (oW ?_ _) | refine fun k => lKa fits (oW ?_ _) | refine fun k => lLk fits (oW ?_ _) | refine fun k => lUp fits (oW ?_ _) | refine fun k => lDel fits (oW ?_ _) | refine fun k => lSt fits (oW ?_ _) | refine fun k => lM fits (oW ?_ _) | refine fun k => lA fits (oW ?_ _) | refine fun k => lA0 fits (oW ?_ _) | refine fun k => lA1 fits (oW ?_ _) | refine fun k => lMk fits (oW ?_ _) | refine fun k => lW fits (oW ?_ _)))
    refine ⟨?_, rfl⟩
    rw [hrr]; simp only [readV, hout, hro]; simp [decode]
  all_goals try (simp at hn; omega)
  obtain ⟨m, rfl⟩ : ∃ m, n = m + 8 := ⟨r.length, by simp at hn; omega⟩
  simp only [List.length_cons] at hn hbl
  have w1 : IntKind.i64.wrap (j + 1) = j + 1 := wrap_ok (by omega) (by omega)
  have w2 : IntKind.i64.wrap (j + 2) = j + 2 := wrap_ok (by omega) (by omega)
  have w3 : IntKind.i64.wrap (j + 3) = j + 3 := wrap_ok (by omega) (by omega)
  have v6 : IntKind.i64.wrap (7 - 1) = 6 := rfl
  have v5 : IntKind.i64.wrap (IntKind.i64.wrap (7 - 1) - 1) = 5 := rfl
  have v4 : IntKind.i64.wrap (IntKind.i64.wrap (IntKind.i64.wrap (7 - 1) - 1) - 1) = 4 := rfl
  have w7 : IntKind.i64.wrap (j + 7) = j + 7 := wrap_ok (by omega) (by omega)
  have w6 : IntKind.i64.wrap (j + IntKind.i64.wrap (7 - 1)) = j + 6 := by rw [v6]; exact wrap_ok (by omega) (by omega)
  have w5 : IntKind.i64.wrap (j + IntKind.i64.wrap (IntKind.i64.wrap (7 - 1) - 1)) = j + 5 := by rw [v5]; exact wrap_ok (by omega) (by omega)
  have w4 : IntKind.i64.wrap (j + IntKind.i64.wrap (IntKind.i64.wrap (IntKind.i64.wrap (7 - 1) - 1) - 1)) = j + 4 := by rw [v4]; exact wrap_ok (by omega) (by omega)
  have x0 : (bs.map u8row)[j.toNat]? = some (u8row b0) := at_off (n := 0) hpre (by omega) rfl
  have x1 : (bs.map u8row)[(IntKind.i64.wrap (j + 1)).toNat]? = some (u8row b1) := at_off (n := 1) hpre (by omega) rfl
  have x2 : (bs.map u8row)[(IntKind.i64.wrap (j + 2)).toNat]? = some (u8row b2) := at_off (n := 2) hpre (by omega) rfl
  have x3 : (bs.map u8row)[(IntKind.i64.wrap (j + 3)).toNat]? = some (u8row b3) := at_off (n := 3) hpre (by omega) rfl
  have x7 : (bs.map u8row)[(IntKind.i64.wrap (j + 7)).toNat]? = some (u8row b7) := at_off (n := 7) hpre (by omega) rfl
  have x6 : (bs.map u8row)[(IntKind.i64.wrap (j + IntKind.i64.wrap (7 - 1))).toNat]? = some (u8row b6) := at_off (n := 6) hpre (by omega) rfl
  have x5 : (bs.map u8row)[(IntKind.i64.wrap (j + IntKind.i64.wrap (IntKind.i64.wrap (7 - 1) - 1))).toNat]? = some (u8row b5) := at_off (n := 5) hpre (by omega) rfl
  have x4 : (bs.map u8row)[(IntKind.i64.wrap (j + IntKind.i64.wrap (IntKind.i64.wrap (IntKind.i64.wrap (7 - 1) - 1) - 1))).toNat]? = some (u8row b4) := at_off (n := 4) hpre (by omega) rfl
  refine wR (gI ?_)
  repeat' (first
    | refine W.rounds 5 (WR.step ?_)
    | ((first | refine gC fits mixed ?_ | refine gC0 fits mixed ?_ | refine gO fits mixed ?_ | refine gR fits mixed ?_); (conv => whnf); first | (refine ⟨fun hb => ?_, fun hb => ?_⟩ <;> try first | (simp only [Bool.not_true, Bool.not_false, Bool.true_eq_false, Bool.false_eq_true, reduceCtorEq] at hb; done) | (simp only [decide_eq_true_eq, decide_eq_false_iff_not, beq_iff_eq, beq_eq_false_iff_ne, bne_iff_ne, bne_eq_false_iff_eq, ne_eq, List.length_map, List.length_cons, List.length_nil, List.length_append, Bool.not_eq_true', Bool.not_eq_false'] at hb; exfalso; omega) | (exfalso; simp [ba_beq, IntKind.wrap, IntKind.bits, IntKind.signed] at hb; done)) | (show W _ _ _ _ _) | (show ∀ k, WL _ _ _ k _ _ _) | (show ∀ k, DL _ _ _ k _ _ _ _) | (show RoundEnd _ _ _ _ _) | refine fR ?_)
    | (show ∀ k, WL _ _ _ k _ _ _; first | refine fun k => lSA fits (oW ?_ _) | refine fun k => lL fits (oW ?_ _) | refine fun k => lQ fits (oW ?_ _) | refine fun k => lX fits (oW ?_ _) | refine fun k => lXa fits (oW ?_ _) | refine fun k => lK fits (oW ?_ _) | refine fun k => lKa fits (oW ?_ _) | refine fun k => lLk fits (oW ?_ _) | refine fun k => lUp fits (oW ?_ _) | refine fun k => lDel fits (oW ?_ _) | refine fun k => lSt fits (oW ?_ _) | refine fun k => lM fits (oW ?_ _) | refine fun k => lA fits (oW ?_ _) | refine fun k => lA0 fits (oW ?_ _) | refine fun k => lA1 fits (oW ?_ _) | refine fun k => lMk fits (oW ?_ _) | refine fun k => lW fits (oW ?_ _))
    | (show ∀ k, DL _ _ _ k _ _ _ _; first | refine fun k => dSA fits (oD ?_ _) | refine fun k => dL fits (oD ?_ _) | refine fun k => dQ fits (oD ?_ _) | refine fun k => dX fits (oD ?_ _) | refine fun k => dK fits (oD ?_ _) | refine fun k => dKa fits (oD ?_ _) | refine fun k => dLk fits (oD ?_ _) | refine fun k => dUp fits (oD ?_ _) | refine fun k => dA fits (oD ?_ _) | refine fun k => dA0 fits (oD ?_ _) | refine fun k => dSt fits (oD ?_ _) | refine fun k => dM fits (oD ?_ _) | refine fun k => dN fits (oD ?_ _) | refine fun k => dW fits (oD ?_ _)))
  refine rE (WR2.mono (ih m (by omega) r (pre ++ [b0, b1, b2, b3, b4, b5, b6, b7]) _ (out ++ [insOf b0 b1 b2 b3 b4 b5 b6 b7]) _ (by omega) (by omega) ?_ ?_ ?_ ?_ ?_) (by omega))
  · simp; omega
  · rw [hpre]; simp
  · rw [hout]; simp [decode]
  · rw [hro, List.map_append]; congr 1
    have l0 := u8_lt b0
    have l1 := u8_lt b1
    have l2 := u8_lt b2
    have l3 := u8_lt b3
    have l4 := u8_lt b4
    have l5 := u8_lt b5
    have l6 := u8_lt b6
    have l7 := u8_lt b7
    have h0 : (2 ^ min (Int.toNat 8) IntKind.i64.bits : Int) = ((2 ^ 8 : Nat) : Int) := rfl
    have h1 : (2 ^ min (Int.toNat 8) IntKind.u32.bits : Int) = 256 := rfl
    rw [wrap64_nat (n := b0.toNat) (by omega), wrap64_nat (n := b1.toNat) (by omega), wrap64_nat (n := b2.toNat) (by omega), wrap64_nat (n := b3.toNat) (by omega), h0, h1,
      or64 (s := b0.toNat) (i := 8) (p := ((2 ^ 8 : Nat) : Int)) rfl (by omega) (by omega)]
    have e7 := or32s (a := 0) (b := b7.toNat) (p := 256) rfl (by omega) (by omega)
    rw [show ((0 : Nat) : Int) = 0 from rfl] at e7
    rw [e7, or32s (p := 256) rfl (by omega) (by omega), or32s (p := 256) rfl (by omega) (by omega), or32s (p := 256) rfl (by omega) (by omega)]
    simp [insOf, Ins.row]; omega
  · rw [wrap_ok (by omega) (by omega)]; simp [hj]
theorem read0 : Comp Try.prog 11 [.one (.d (.list []))] (.tup [.one (.d (.list [])), .one (.d (.sc (.int .i64 0)))]) := read [] (by decide)
theorem bytes1 : Comp Try.prog 10 [lst Ins.row [⟨6, 0, 0, 7⟩]] (bytesV [6, 0, 0, 0, 7, 0, 0, 0]) := by
  have h : encode [⟨6, 0, 0, 7⟩] = [6, 0, 0, 0, 7, 0, 0, 0] := by decide
  exact h ▸ bytesC [⟨6, 0, 0, 7⟩] (by decide)
theorem read1 : Comp Try.prog 11 [bytesV [6, 0, 0, 0, 7, 0, 0, 0]] (.tup [.one (.d (.list [[.sc (.int .i64 6), .sc (.int .i64 0), .sc (.int .i64 0), .sc (.int .u32 7)]])), .one (.d (.sc (.int .i64 0)))]) := by
  exact read [6, 0, 0, 0, 7, 0, 0, 0] (by decide)
theorem alive1 : Comp Try.prog 9 [] (bool true) := by
  refine Spec.body (C := cx [] 41) fits (fn := Try.f9) Try.func9 rfl (by decide) (by decide) (gI ?_)
  repeat' (first
    | ((first | refine gC fits mixed ?_ | refine gC0 fits mixed ?_ | refine gO fits mixed ?_ | refine gR fits mixed ?_); (conv => whnf); first | (refine ⟨fun hb => ?_, fun hb => ?_⟩ <;> try first | (simp only [Bool.not_true, Bool.not_false, Bool.true_eq_false, Bool.false_eq_true, reduceCtorEq] at hb; done) | (simp only [decide_eq_true_eq, decide_eq_false_iff_not, beq_iff_eq, beq_eq_false_iff_ne, bne_iff_ne, bne_eq_false_iff_eq, ne_eq, List.length_map, List.length_cons, List.length_nil, List.length_append, Bool.not_eq_true', Bool.not_eq_false'] at hb; exfalso; omega) | (exfalso; simp [ba_beq, IntKind.wrap, IntKind.bits, IntKind.signed] at hb; done)) | (show W _ _ _ _ _) | (show ∀ k, WL _ _ _ k _ _ _) | (show ∀ k, DL _ _ _ k _ _ _ _) | (show RoundEnd _ _ _ _ _) | refine fR ?_)
    | (show ∀ k, WL _ _ _ k _ _ _; first | refine fun k => lC (read0) (oW ?_ _) | refine fun k => lC (bytes1) (oW ?_ _) | refine fun k => lC (read1) (oW ?_ _) | refine fun k => lC (num _) (oW ?_ _) | refine fun k => lSA fits (oW ?_ _) | refine fun k => lL fits (oW ?_ _) | refine fun k => lQ fits (oW ?_ _) | refine fun k => lX fits (oW ?_ _) | refine fun k => lXa fits (oW ?_ _) | refine fun k => lK fits (oW ?_ _) | refine fun k => lKa fits (oW ?_ _) | refine fun k => lLk fits (oW ?_ _) | refine fun k => lUp fits (oW ?_ _) | refine fun k => lDel fits (oW ?_ _) | refine fun k => lSt fits (oW ?_ _) | refine fun k => lM fits (oW ?_ _) | refine fun k => lA fits (oW ?_ _) | refine fun k => lA0 fits (oW ?_ _) | refine fun k => lA1 fits (oW ?_ _) | refine fun k => lMk fits (oW ?_ _) | refine fun k => lW fits (oW ?_ _)))
  exact ⟨rfl, rfl⟩
end Go.Proofs.Ytfbocpbeogkapaa
