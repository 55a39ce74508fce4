/- A part of a proof: functions of the program, walked over the abstract machine. -/
import Derived.Test.YtngkoancdmimkaaTypes
set_option linter.unusedVariables false
set_option linter.unusedSimpArgs false
namespace Go.Proofs.Ytngkoancdmimkaa
open Go Go.Am Go.Proofs
attribute [local irreducible] W WL DL WO RoundEnd
set_option maxRecDepth 10000
set_option maxHeartbeats 4000000
mutual
def sizeF : Ex → Nat → Int
  | .mk _ o n _ l, d => if d > 100 ∨ n.size > 60 ∨ o.size > 20 then 1000 else sizesF l (d + 1) 1
def sizesF : List Ex → Nat → Int → Int
  | [], _, n => n
  | x :: l, d, n => if n < 1000 then sizesF l d (n + sizeF x d) else n
end
mutual
theorem sizeF_le : ∀ (e : Ex) (d : Nat), d ≤ 101 → 1 ≤ sizeF e d ∧ sizeF e d ≤ 1000 * (102 - (d : Int))
  | .mk k o n u l, d, h => by
    rw [sizeF]
    split
    · omega
    · rename_i hn
      have hd : d ≤ 100 := by omega
      have := sizesF_le l (d + 1) 1 (by omega) (by omega) (by omega)
      omega
theorem sizesF_le : ∀ (l : List Ex) (d : Nat) (n : Int), d ≤ 101 → 1 ≤ n → n ≤ 999 + 1000 * (102 - (d : Int)) → 1 ≤ sizesF l d n ∧ sizesF l d n ≤ 999 + 1000 * (102 - (d : Int))
  | [], d, n, h, h1, h2 => by rw [sizesF]; exact ⟨h1, h2⟩
  | x :: l, d, n, h, h1, h2 => by
    rw [sizesF]
    have hx := sizeF_le x d h
    split
    · exact sizesF_le l d _ h (by omega) (by omega)
    · exact ⟨h1, h2⟩
end
theorem sizeR : ∀ (n : Nat) (e : Ex) (d : Nat), e.size < n → d ≤ 101 → Comp Try.prog 31 [.agg (e.row.map .d), int .i64 d] (int .i64 (sizeF e d)) := by
  intro n
  induction n with
  | zero => intro e d h; omega
  | succ n IH =>
  intro e d hn hd
  obtain ⟨k, o, nm, u, l⟩ := e
  have el : Ex.rows l = l.map Ex.row := Ex.rows_eq l
  simp only [Ex.row, el, List.map_cons, List.map_nil]
  refine Spec.body (C := cx [] 43) fits (fn := Try.f31) Try.func31 rfl (by decide) (by decide) (gI ?_)
  repeat' (first
    | ((first | refine gC fits mixed ?_ | refine gC0 fits mixed ?_ | refine gO fits mixed ?_ | refine gR fits mixed ?_); (conv => whnf); first | (refine ⟨fun hb => ?_, fun hb => ?_⟩ <;> try first | (simp only [Bool.not_true, Bool.not_false, Bool.true_eq_false, Bool.false_eq_true, reduceCtorEq] at hb; done) | exact Bool.noConfusion (hb.symm.trans (by assumption) : true = false) | exact Bool.noConfusion (hb.symm.trans (by assumption) : false = true) | (simp only [decide_eq_true_eq, decide_eq_false_iff_not, beq_iff_eq, beq_eq_false_iff_ne, bne_iff_ne, bne_eq_false_iff_eq, ne_eq, List.length_map, List.length_cons, List.length_nil, List.length_append, Bool.not_eq_true', Bool.not_eq_false'] at hb; exfalso; omega) | (exfalso; simp [ba_beq, IntKind.wrap, IntKind.bits, IntKind.signed] at hb; done)) | (show W _ _ _ _ _) | (show ∀ k, WL _ _ _ k _ _ _) | (show ∀ k, DL _ _ _ k _ _ _ _) | (show RoundEnd _ _ _ _ _) | refine fR ?_ | (show _ ∧ Go.Am.Fin _ _ _ _ _ _))
    | (show ∀ k, WL _ _ _ k _ _ _; first | refine fun k => lSA fits (oW ?_ _) | refine fun k => lL fits (oW ?_ _) | refine fun k => lQ fits (oW ?_ _) | refine fun k => lX fits (oW ?_ _) | refine fun k => lXa fits (oW ?_ _) | refine fun k => lXs fits (oW ?_ _) | refine fun k => lK fits (oW ?_ _) | refine fun k => lKa fits (oW ?_ _) | refine fun k => lLk fits (oW ?_ _) | refine fun k => lUp fits (oW ?_ _) | refine fun k => lDel fits (oW ?_ _) | refine fun k => lSt fits (oW ?_ _) | refine fun k => lLU fits (oW ?_ _) | refine fun k => lM fits (oW ?_ _) | refine fun k => lA fits (oW ?_ _) | refine fun k => lA0 fits (oW ?_ _) | refine fun k => lA1 fits (oW ?_ _) | refine fun k => lMk fits (oW ?_ _) | refine fun k => lW fits (oW ?_ _)))
  · exact ⟨by rw [sizeF, if_pos (by simp at hb; omega)]; rfl, rfl⟩
  · exact ⟨by rw [sizeF, if_pos (by simp at hb; omega)]; rfl, rfl⟩
  · exact ⟨by rw [sizeF, if_pos (by simp at hb; omega)]; rfl, rfl⟩
  have a1 : decide ((d : Int) > 100) = false := by assumption
  have a2 : decide ((nm.size : Int) > 60) = false := by assumption
  have a3 : decide ((o.size : Int) > 20) = false := by assumption
  simp only [decide_eq_false_iff_not] at a1 a2 a3
  have hres : sizeF (Ex.mk k o nm u l) d = sizesF l (d + 1) 1 := by rw [sizeF, if_neg (by omega)]
  rw [hres]
  refine wLoop [1, 2, 5, 6] 1 (l.length + 1) ?_
  refine (fun key => key l [] _ _ rfl rfl rfl (Int.le_refl _) (by omega) :
    (∀ (rest done : List Ex) (j m : Int), l = done ++ rest → j = done.length → sizesF l (d + 1) 1 = sizesF rest (d + 1) m → j + 1 ≤ m → m ≤ 999 + 1000 * (102 - ((d + 1 : Nat) : Int)) →
    WR2 _ _ _ _ _ (rest.length + 1) [(1, int .i64 d), (2, .one (.ptr 0 0)), (5, int .i64 m), (6, int .i64 j)] [.var [.d (.sc (.int .i64 k)), .d (.sc (.string o)), .d (.sc (.string nm)), .d (.sc (.int .u64 u)), .d (.list (l.map Ex.row))]]) → _) ?_
  intro rest
  induction rest with
  | nil =>
    intro done j m hl hj hr hm hm2
    have hlen : l.length = done.length := by rw [hl]; simp
    refine wR (gI ?_)
    repeat' (first
    | ((first | refine gC fits mixed ?_ | refine gC0 fits mixed ?_ | refine gO fits mixed ?_ | refine gR fits mixed ?_); (conv => whnf); first | (refine ⟨fun hb => ?_, fun hb => ?_⟩ <;> try first | (simp only [Bool.not_true, Bool.not_false, Bool.true_eq_false, Bool.false_eq_true, reduceCtorEq] at hb; done) | exact Bool.noConfusion (hb.symm.trans (by assumption) : true = false) | exact Bool.noConfusion (hb.symm.trans (by assumption) : false = true) | (simp only [decide_eq_true_eq, decide_eq_false_iff_not, beq_iff_eq, beq_eq_false_iff_ne, bne_iff_ne, bne_eq_false_iff_eq, ne_eq, List.length_map, List.length_cons, List.length_nil, List.length_append, Bool.not_eq_true', Bool.not_eq_false'] at hb; exfalso; omega) | (exfalso; simp [ba_beq, IntKind.wrap, IntKind.bits, IntKind.signed] at hb; done)) | (show W _ _ _ _ _) | (show ∀ k, WL _ _ _ k _ _ _) | (show ∀ k, DL _ _ _ k _ _ _ _) | (show RoundEnd _ _ _ _ _) | refine fR ?_ | (show _ ∧ Go.Am.Fin _ _ _ _ _ _))
    | (show ∀ k, WL _ _ _ k _ _ _; first | refine fun k => lSA fits (oW ?_ _) | refine fun k => lL fits (oW ?_ _) | refine fun k => lQ fits (oW ?_ _) | refine fun k => lX fits (oW ?_ _) | refine fun k => lXa fits (oW ?_ _) | refine fun k => lXs fits (oW ?_ _) | refine fun k => lK fits (oW ?_ _) | refine fun k => lKa fits (oW ?_ _) | refine fun k => lLk fits (oW ?_ _) | refine fun k => lUp fits (oW ?_ _) | refine fun k => lDel fits (oW ?_ _) | refine fun k => lSt fits (oW ?_ _) | refine fun k => lLU fits (oW ?_ _) | refine fun k => lM fits (oW ?_ _) | refine fun k => lA fits (oW ?_ _) | refine fun k => lA0 fits (oW ?_ _) | refine fun k => lA1 fits (oW ?_ _) | refine fun k => lMk fits (oW ?_ _) | refine fun k => lW fits (oW ?_ _)))
    exact ⟨by rw [hr, sizesF]; rfl, rfl⟩
  | cons x rest ih =>
    intro done j m hl hj hr hm hm2
    have hlen : l.length = done.length + (rest.length + 1) := by rw [hl]; simp
    have hxm : x ∈ l := by rw [hl]; simp
    have hsz := Ex.size_mem hxm
    have hc := IH x (d + 1) (by rw [Ex.size] at hn; omega) (by omega)
    have hle := sizeF_le x (d + 1) (by omega)
    rw [sizesF] at hr
    have e1 : ((d + 1 : Nat) : Int) = IntKind.wrap .i64 ((d : Int) + 1) := by rw [wrap_ok (by omega) (by omega)]; rfl
    obtain ⟨xk, xo, xn, xu, xl⟩ := x
    refine wR (gI ?_)
    rw [e1] at hc
    repeat' (first
    | ((first | refine gC fits mixed ?_ | refine gC0 fits mixed ?_ | refine gO fits mixed ?_ | refine gR fits mixed ?_); (conv => whnf); first | (refine ⟨fun hb => ?_, fun hb => ?_⟩ <;> try first | (simp only [Bool.not_true, Bool.not_false, Bool.true_eq_false, Bool.false_eq_true, reduceCtorEq] at hb; done) | exact Bool.noConfusion (hb.symm.trans (by assumption) : true = false) | exact Bool.noConfusion (hb.symm.trans (by assumption) : false = true) | (simp only [decide_eq_true_eq, decide_eq_false_iff_not, beq_iff_eq, beq_eq_false_iff_ne, bne_iff_ne, bne_eq_false_iff_eq, ne_eq, List.length_map, List.length_cons, List.length_nil, List.length_append, Bool.not_eq_true', Bool.not_eq_false'] at hb; exfalso; omega) | (exfalso; simp [ba_beq, IntKind.wrap, IntKind.bits, IntKind.signed] at hb; done)) | (show W _ _ _ _ _) | (show ∀ k, WL _ _ _ k _ _ _) | (show ∀ k, DL _ _ _ k _ _ _ _) | (show RoundEnd _ _ _ _ _) | refine fR ?_ | (show _ ∧ Go.Am.Fin _ _ _ _ _ _))
    | (show ∀ k, WL _ _ _ k _ _ _; first | refine fun k => lC (hc) (oW ?_ _) | refine fun k => lSA fits (oW ?_ _) | refine fun k => lL fits (oW ?_ _) | refine fun k => lQ fits (oW ?_ _) | refine fun k => lX fits (oW ?_ _) | refine fun k => lXa fits (oW ?_ _) | refine fun k => lXs fits (oW ?_ _) | refine fun k => lK fits (oW ?_ _) | refine fun k => lKa fits (oW ?_ _) | refine fun k => lLk fits (oW ?_ _) | refine fun k => lUp fits (oW ?_ _) | refine fun k => lDel fits (oW ?_ _) | refine fun k => lSt fits (oW ?_ _) | refine fun k => lLU fits (oW ?_ _) | refine fun k => lM fits (oW ?_ _) | refine fun k => lA fits (oW ?_ _) | refine fun k => lA0 fits (oW ?_ _) | refine fun k => lA1 fits (oW ?_ _) | refine fun k => lMk fits (oW ?_ _) | refine fun k => lW fits (oW ?_ _)))
    · have hb2 : m < 1000 := by simpa using hb
      rw [if_pos hb2] at hr
      refine rE (ih (done ++ [Ex.mk xk xo xn xu xl]) _ _ (by rw [hl]; simp) ?_ ?_ ?_ ?_)
      · rw [wrap_ok (by omega) (by omega)]; simp [hj]
      · rw [hr, wrap_ok (by omega) (by omega)]
      · rw [wrap_ok (by omega) (by omega), wrap_ok (by omega) (by omega)]; omega
      · rw [wrap_ok (by omega) (by omega)]; omega
    · have hb2 : ¬ m < 1000 := by simpa using hb
      rw [if_neg hb2] at hr
      exact ⟨by rw [hr]; rfl, rfl⟩
/-- is an expression small enough? -/
def few (e : Ex) : Bool := decide (sizeF e 0 ≤ 300)
theorem fewR (e : Ex) : Comp Try.prog 9 [.agg (e.row.map .d)] (bool (few e)) := by
  have hc := sizeR _ e 0 (Nat.lt_succ_self _) (by omega)
  have hn : ((0 : Nat) : Int) = 0 := rfl
  rw [hn] at hc
  unfold few
  obtain ⟨k, o, nm, u, l⟩ := e
  refine Spec.body (C := cx [] 6) fits (fn := Try.f9) Try.func9 rfl (by decide) (by decide) (gI ?_)
  repeat' (first
    | ((first | refine gC fits mixed ?_ | refine gC0 fits mixed ?_ | refine gO fits mixed ?_ | refine gR fits mixed ?_); (conv => whnf); first | (refine ⟨fun hb => ?_, fun hb => ?_⟩ <;> try first | (simp only [Bool.not_true, Bool.not_false, Bool.true_eq_false, Bool.false_eq_true, reduceCtorEq] at hb; done) | exact Bool.noConfusion (hb.symm.trans (by assumption) : true = false) | exact Bool.noConfusion (hb.symm.trans (by assumption) : false = true) | (simp only [decide_eq_true_eq, decide_eq_false_iff_not, beq_iff_eq, beq_eq_false_iff_ne, bne_iff_ne, bne_eq_false_iff_eq, ne_eq, List.length_map, List.length_cons, List.length_nil, List.length_append, Bool.not_eq_true', Bool.not_eq_false'] at hb; exfalso; omega) | (exfalso; simp [ba_beq, IntKind.wrap, IntKind.bits, IntKind.signed] at hb; done)) | (show W _ _ _ _ _) | (show ∀ k, WL _ _ _ k _ _ _) | (show ∀ k, DL _ _ _ k _ _ _ _) | (show RoundEnd _ _ _ _ _) | refine fR ?_ | (show _ ∧ Go.Am.Fin _ _ _ _ _ _))
    | (show ∀ k, WL _ _ _ k _ _ _; first | refine fun k => lC (hc) (oW ?_ _) | refine fun k => lSA fits (oW ?_ _) | refine fun k => lL fits (oW ?_ _) | refine fun k => lQ fits (oW ?_ _) | refine fun k => lX fits (oW ?_ _) | refine fun k => lXa fits (oW ?_ _) | refine fun k => lXs fits (oW ?_ _) | refine fun k => lK fits (oW ?_ _) | refine fun k => lKa fits (oW ?_ _) | refine fun k => lLk fits (oW ?_ _) | refine fun k => lUp fits (oW ?_ _) | refine fun k => lDel fits (oW ?_ _) | refine fun k => lSt fits (oW ?_ _) | refine fun k => lLU fits (oW ?_ _) | refine fun k => lM fits (oW ?_ _) | refine fun k => lA fits (oW ?_ _) | refine fun k => lA0 fits (oW ?_ _) | refine fun k => lA1 fits (oW ?_ _) | refine fun k => lMk fits (oW ?_ _) | refine fun k => lW fits (oW ?_ _)))
  · exact ⟨by rw [hb]; rfl, rfl⟩
  · exact ⟨by rw [hb]; rfl, rfl⟩
end Go.Proofs.Ytngkoancdmimkaa
