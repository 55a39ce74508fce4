/- A part of a proof: functions of the program, walked over the abstract machine. -/
import Derived.Test.YtfbocpbeogkapaaBase
set_option linter.unusedVariables false
set_option linter.unusedSimpArgs false
namespace Go.Proofs.Ytfbocpbeogkapaa
open Go Go.Am Go.Proofs
attribute [local irreducible] W WL DL WO RoundEnd
set_option maxRecDepth 10000
set_option maxHeartbeats 4000000
def Ins.right (x : Ins) : Bool := decide (0 ≤ x.code ∧ x.code ≤ 65535 ∧ 0 ≤ x.jt ∧ x.jt ≤ 255 ∧ 0 ≤ x.jf ∧ x.jf ≤ 255)
theorem right (x : Ins) : Comp Try.prog 23 [.agg x.cells] (bool x.right) := by
  refine Spec.body (C := cx [] 31) fits (fn := Try.f23) Try.func23 rfl (by decide) (by decide) (gI ?_)
  repeat' (first
    | ((first | refine gC fits mixed ?_ | refine gC0 fits mixed ?_ | refine gO fits mixed ?_ | refine gR fits mixed ?_); (conv => whnf); first | (refine ⟨fun hb => ?_, fun hb => ?_⟩ <;> try first | (simp only [Bool.not_true, Bool.not_false, Bool.true_eq_false, Bool.false_eq_true, reduceCtorEq] at hb; done) | (simp only [decide_eq_true_eq, decide_eq_false_iff_not, beq_iff_eq, beq_eq_false_iff_ne, bne_iff_ne, bne_eq_false_iff_eq, ne_eq, List.length_map, List.length_cons, List.length_nil, List.length_append, Bool.not_eq_true', Bool.not_eq_false'] at hb; exfalso; omega) | (exfalso; simp [ba_beq, IntKind.wrap, IntKind.bits, IntKind.signed] at hb; done)) | (show W _ _ _ _ _) | (show ∀ k, WL _ _ _ k _ _ _) | (show ∀ k, DL _ _ _ k _ _ _ _) | (show RoundEnd _ _ _ _ _) | refine fR ?_)
    | (show ∀ k, WL _ _ _ k _ _ _; first | refine fun k => lSA fits (oW ?_ _) | refine fun k => lL fits (oW ?_ _) | refine fun k => lQ fits (oW ?_ _) | refine fun k => lX fits (oW ?_ _) | refine fun k => lXa fits (oW ?_ _) | refine fun k => lK fits (oW ?_ _) | refine fun k => lKa fits (oW ?_ _) | refine fun k => lLk fits (oW ?_ _) | refine fun k => lUp fits (oW ?_ _) | refine fun k => lDel fits (oW ?_ _) | refine fun k => lSt fits (oW ?_ _) | refine fun k => lM fits (oW ?_ _) | refine fun k => lA fits (oW ?_ _) | refine fun k => lA0 fits (oW ?_ _) | refine fun k => lA1 fits (oW ?_ _) | refine fun k => lMk fits (oW ?_ _) | refine fun k => lW fits (oW ?_ _)))
  all_goals
    refine ⟨?_, rfl⟩
    simp only [decide_eq_true_eq, decide_eq_false_iff_not] at *
    unfold Ins.right
    first
      | (rw [decide_eq_true (by omega)]; rfl)
      | (rw [decide_eq_false (by omega)]; rfl)
theorem num (n : Int) : Comp Try.prog 15 [int .i64 n] (int .i64 n) := by
  refine Spec.body (C := cx [] 4) fits (fn := Try.f15) Try.func15 rfl (by decide) (by decide) (gI ?_)
  repeat' (first
    | ((first | refine gC fits mixed ?_ | refine gC0 fits mixed ?_ | refine gO fits mixed ?_ | refine gR fits mixed ?_); (conv => whnf); first | (refine ⟨fun hb => ?_, fun hb => ?_⟩ <;> try first | (simp only [Bool.not_true, Bool.not_false, Bool.true_eq_false, Bool.false_eq_true, reduceCtorEq] at hb; done) | (simp only [decide_eq_true_eq, decide_eq_false_iff_not, beq_iff_eq, beq_eq_false_iff_ne, bne_iff_ne, bne_eq_false_iff_eq, ne_eq, List.length_map, List.length_cons, List.length_nil, List.length_append, Bool.not_eq_true', Bool.not_eq_false'] at hb; exfalso; omega) | (exfalso; simp [ba_beq, IntKind.wrap, IntKind.bits, IntKind.signed] at hb; done)) | (show W _ _ _ _ _) | (show ∀ k, WL _ _ _ k _ _ _) | (show ∀ k, DL _ _ _ k _ _ _ _) | (show RoundEnd _ _ _ _ _) | refine fR ?_)
    | (show ∀ k, WL _ _ _ k _ _ _; first | refine fun k => lSA fits (oW ?_ _) | refine fun k => lL fits (oW ?_ _) | refine fun k => lQ fits (oW ?_ _) | refine fun k => lX fits (oW ?_ _) | refine fun k => lXa fits (oW ?_ _) | refine fun k => lK fits (oW ?_ _) | refine fun k => lKa fits (oW ?_ _) | refine fun k => lLk fits (oW ?_ _) | refine fun k => lUp fits (oW ?_ _) | refine fun k => lDel fits (oW ?_ _) | refine fun k => lSt fits (oW ?_ _) | refine fun k => lM fits (oW ?_ _) | refine fun k => lA fits (oW ?_ _) | refine fun k => lA0 fits (oW ?_ _) | refine fun k => lA1 fits (oW ?_ _) | refine fun k => lMk fits (oW ?_ _) | refine fun k => lW fits (oW ?_ _)))
  exact ⟨rfl, rfl⟩
def Ins.bytes (x : Ins) : List UInt8 := [u8 x.code, u8 (x.code / 256), u8 x.jt, u8 x.jf, u8 x.k, u8 (x.k / 256), u8 (x.k / 65536), u8 (x.k / 16777216)]
def encL : List Ins → List UInt8 → List UInt8
  | [], out => out
  | x :: r, out => bif x.right then encL r (out ++ x.bytes) else []
theorem bytes (l : List Ins) (hl : 8 * l.length ≤ 2 ^ 46) : Comp Try.prog 10 [lst Ins.row l] (bytesV (encL l [])) := by
  refine Spec.body (C := cx [(3, false)] 47) fits (fn := Try.f10) Try.func10 rfl (by decide) (by decide) (gI ?_)
  repeat' (first
    | ((first | refine gC fits mixed ?_ | refine gC0 fits mixed ?_ | refine gO fits mixed ?_ | refine gR fits mixed ?_); (conv => whnf); first | (refine ⟨fun hb => ?_, fun hb => ?_⟩ <;> try first | (simp only [Bool.not_true, Bool.not_false, Bool.true_eq_false, Bool.false_eq_true, reduceCtorEq] at hb; done) | (simp only [decide_eq_true_eq, decide_eq_false_iff_not, beq_iff_eq, beq_eq_false_iff_ne, bne_iff_ne, bne_eq_false_iff_eq, ne_eq, List.length_map, List.length_cons, List.length_nil, List.length_append, Bool.not_eq_true', Bool.not_eq_false'] at hb; exfalso; omega) | (exfalso; simp [ba_beq, IntKind.wrap, IntKind.bits, IntKind.signed] at hb; done)) | (show W _ _ _ _ _) | (show ∀ k, WL _ _ _ k _ _ _) | (show ∀ k, DL _ _ _ k _ _ _ _) | (show RoundEnd _ _ _ _ _) | refine fR ?_)
    | (show ∀ k, WL _ _ _ k _ _ _; first | refine fun k => lSA fits (oW ?_ _) | refine fun k => lL fits (oW ?_ _) | refine fun k => lQ fits (oW ?_ _) | refine fun k => lX fits (oW ?_ _) | refine fun k => lXa fits (oW ?_ _) | refine fun k => lK fits (oW ?_ _) | refine fun k => lKa fits (oW ?_ _) | refine fun k => lLk fits (oW ?_ _) | refine fun k => lUp fits (oW ?_ _) | refine fun k => lDel fits (oW ?_ _) | refine fun k => lSt fits (oW ?_ _) | refine fun k => lM fits (oW ?_ _) | refine fun k => lA fits (oW ?_ _) | refine fun k => lA0 fits (oW ?_ _) | refine fun k => lA1 fits (oW ?_ _) | refine fun k => lMk fits (oW ?_ _) | refine fun k => lW fits (oW ?_ _)))
  refine wLoop [2, 3, 7, 8, 9] 1 (l.length + 1) ?_
  refine (fun key => key l [] [] _ _ rfl rfl rfl rfl rfl : (∀ (rest done : List Ins) (out : List UInt8) (j : Int) (rows : List (List D)), l = done ++ rest → j = done.length → rows = out.map u8row → encL rest out = encL l [] → out.length = 8 * done.length →
    WR2 _ _ _ _ _ (rest.length + 1) [(2, nilV), (3, .one (.arr 0 0 rows.length)), (7, lst Ins.row l), (8, int .i64 (l.map Ins.row).length), (9, int .i64 j)] [.arr 0 false 1 rows]) → _) ?_
  intro rest
  induction rest with
  | nil =>
    intro done out j rows hl hj hr he hn
    have hlen : l.length = done.length := by subst hl; simp
    refine wR (gI ?_)
    repeat' (first
    | ((first | refine gC fits mixed ?_ | refine gC0 fits mixed ?_ | refine gO fits mixed ?_ | refine gR fits mixed ?_); (conv => whnf); first | (refine ⟨fun hb => ?_, fun hb => ?_⟩ <;> try first | (simp only [Bool.not_true, Bool.not_false, Bool.true_eq_false, Bool.false_eq_true, reduceCtorEq] at hb; done) | (simp only [decide_eq_true_eq, decide_eq_false_iff_not, beq_iff_eq, beq_eq_false_iff_ne, bne_iff_ne, bne_eq_false_iff_eq, ne_eq, List.length_map, List.length_cons, List.length_nil, List.length_append, Bool.not_eq_true', Bool.not_eq_false'] at hb; exfalso; omega) | (exfalso; simp [ba_beq, IntKind.wrap, IntKind.bits, IntKind.signed] at hb; done)) | (show W _ _ _ _ _) | (show ∀ k, WL _ _ _ k _ _ _) | (show ∀ k, DL _ _ _ k _ _ _ _) | (show RoundEnd _ _ _ _ _) | refine fR ?_)
    | (show ∀ k, WL _ _ _ k _ _ _; first | refine fun k => lSA fits (oW ?_ _) | refine fun k => lL fits (oW ?_ _) | refine fun k => lQ fits (oW ?_ _) | refine fun k => lX fits (oW ?_ _) | refine fun k => lXa fits (oW ?_ _) | refine fun k => lK fits (oW ?_ _) | refine fun k => lKa fits (oW ?_ _) | refine fun k => lLk fits (oW ?_ _) | refine fun k => lUp fits (oW ?_ _) | refine fun k => lDel fits (oW ?_ _) | refine fun k => lSt fits (oW ?_ _) | refine fun k => lM fits (oW ?_ _) | refine fun k => lA fits (oW ?_ _) | refine fun k => lA0 fits (oW ?_ _) | refine fun k => lA1 fits (oW ?_ _) | refine fun k => lMk fits (oW ?_ _) | refine fun k => lW fits (oW ?_ _)))
    exact ⟨by rw [hr]; show _ = V.one (.d (.list ((encL l []).map u8row))); rw [← he]; rfl, rfl⟩
  | cons x rest ih =>
    intro done out j rows hl hj hr he hn
    have hlen : l.length = done.length + (rest.length + 1) := by subst hl; simp
    have hro : rows.length = 8 * done.length := by rw [hr, List.length_map, hn]
    refine wR (gI ?_)
    repeat' (first
    | refine W.rounds 5 (WR.step ?_)
    | ((first | refine gC fits mixed ?_ | refine gC0 fits mixed ?_ | refine gO fits mixed ?_ | refine gR fits mixed ?_); (conv => whnf); first | (refine ⟨fun hb => ?_, fun hb => ?_⟩ <;> try first | (simp only [Bool.not_true, Bool.not_false, Bool.true_eq_false, Bool.false_eq_true, reduceCtorEq] at hb; done) | (simp only [decide_eq_true_eq, decide_eq_false_iff_not, beq_iff_eq, beq_eq_false_iff_ne, bne_iff_ne, bne_eq_false_iff_eq, ne_eq, List.length_map, List.length_cons, List.length_nil, List.length_append, Bool.not_eq_true', Bool.not_eq_false'] at hb; exfalso; omega) | (exfalso; simp [ba_beq, IntKind.wrap, IntKind.bits, IntKind.signed] at hb; done)) | (show W _ _ _ _ _) | (show ∀ k, WL _ _ _ k _ _ _) | (show ∀ k, DL _ _ _ k _ _ _ _) | (show RoundEnd _ _ _ _ _) | refine fR ?_)
    | (show ∀ k, WL _ _ _ k _ _ _; first | (refine fun k => lCB (right _) (fun hx => oW ?_ _) (fun hx => oW ?_ _)) | refine fun k => lSA fits (oW ?_ _) | refine fun k => lL fits (oW ?_ _) | refine fun k => lQ fits (oW ?_ _) | refine fun k => lX fits (oW ?_ _) | refine fun k => lXa fits (oW ?_ _) | refine fun k => lK fits (oW ?_ _) | refine fun k => lKa fits (oW ?_ _) | refine fun k => lLk fits (oW ?_ _) | refine fun k => lUp fits (oW ?_ _) | refine fun k => lDel fits (oW ?_ _) | refine fun k => lSt fits (oW ?_ _) | refine fun k => lM fits (oW ?_ _) | refine fun k => lA fits (oW ?_ _) | refine fun k => lA0 fits (oW ?_ _) | refine fun k => lA1 fits (oW ?_ _) | refine fun k => lMk fits (oW ?_ _) | refine fun k => lW fits (oW ?_ _)))
    · refine rE (ih (done ++ [x]) (out ++ x.bytes) _ _ ?_ ?_ ?_ ?_ ?_)
      · simp [hl]
      · rw [wrap_ok (by omega) (by omega)]; simp [hj]
      · have h0 : (2 ^ min (Int.toNat 8) IntKind.i64.bits : Int) = 256 := rfl
        have h1 : (2 ^ min (IntKind.i64.wrap (8 * 0)).toNat IntKind.u32.bits : Int) = 1 := rfl
        have h2 : (2 ^ min (IntKind.i64.wrap (8 * IntKind.i64.wrap (0 + 1))).toNat IntKind.u32.bits : Int) = 256 := rfl
        have h3 : (2 ^ min (IntKind.i64.wrap (8 * IntKind.i64.wrap (IntKind.i64.wrap (0 + 1) + 1))).toNat IntKind.u32.bits : Int) = 65536 := rfl
        have h4 : (2 ^ min (IntKind.i64.wrap (8 * IntKind.i64.wrap (IntKind.i64.wrap (IntKind.i64.wrap (0 + 1) + 1) + 1))).toNat IntKind.u32.bits : Int) = 16777216 := rfl
        rw [h0, h1, h2, h3, h4, fdiv_pos _ 256 (by decide), fdiv_pos _ 256 (by decide), fdiv_pos _ 65536 (by decide), fdiv_pos _ 16777216 (by decide), fdiv_pos _ 1 (by decide), Int.ediv_one]
        simp only [u8row_wrap, hr, List.map_append, List.append_assoc]
        rfl
      · rw [← he]; simp [encL, hx]
      · simp [hn, Ins.bytes]; omega
    · refine ⟨?_, rfl⟩
      rw [← he]; simp [encL, hx]; rfl
theorem encL_eq : ∀ (l : List Ins) (out : List UInt8), encL l out = bif l.all Ins.right then out ++ l.flatMap Ins.bytes else []
  | [], out => by simp [encL]
  | x :: l, out => by
    rw [encL, encL_eq l]
    cases hx : x.right <;> cases hl : l.all Ins.right <;> simp [hx, hl]
def encode (l : List Ins) : List UInt8 := bif l.all Ins.right then l.flatMap Ins.bytes else []
theorem encL_nil (l : List Ins) : encL l [] = encode l := by rw [encL_eq]; rfl
theorem bytes_length : ∀ l : List Ins, (l.flatMap Ins.bytes).length = 8 * l.length
  | [] => rfl
  | x :: l => by simp only [List.flatMap_cons, List.length_append, bytes_length l, List.length_cons]; simp [Ins.bytes]; omega
theorem bytesC (l : List Ins) (hl : 8 * l.length ≤ 2 ^ 46) : Comp Try.prog 10 [lst Ins.row l] (bytesV (encode l)) := encL_nil l ▸ bytes l hl
end Go.Proofs.Ytfbocpbeogkapaa
