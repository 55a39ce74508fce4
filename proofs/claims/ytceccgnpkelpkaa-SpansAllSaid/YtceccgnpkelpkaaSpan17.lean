/- A part of a proof: functions of the program, walked over the abstract machine. -/
import Derived.Test.YtceccgnpkelpkaaSpan16
set_option linter.unusedVariables false
set_option linter.unusedSimpArgs false
namespace Go.Proofs.Ytceccgnpkelpkaa
open Go Go.Am Go.Proofs
attribute [local irreducible] W WL DL WO RoundEnd
set_option maxRecDepth 10000
set_option maxHeartbeats 4000000
theorem all23_few (l : List Chn) (d : Act) (n : Int) (a : Six) (hl : l.length * 32 ≤ 2 ^ 47) (hb : ∀ c ∈ l, c.big) (hf : few23F l 0 = false) : Comp Try.prog 5 [lst Chn.row l, .agg (d.row.map .d), int .u32 n, .agg (a.row.map .d)] (bool true) := by
  have c0 := alive23
  have c1 := few23R l (by omega) hb
  rw [hf] at c1
  obtain ⟨dk, dd⟩ := d
  refine Spec.body (C := cx [] 190) fits (fn := Try.f5) Try.func5 rfl (by decide) (by decide) (gI ?_)
  repeat' (first
    | ((first | refine gC fits mixed ?_ | refine gC0 fits mixed ?_ | refine gO fits mixed ?_ | refine gR fits mixed ?_); (conv => whnf); first | (refine ⟨fun hb => ?_, fun hb => ?_⟩ <;> try first | (simp only [Bool.not_true, Bool.not_false, Bool.true_eq_false, Bool.false_eq_true, reduceCtorEq] at hb; done) | exact Bool.noConfusion (hb.symm.trans (by assumption) : true = false) | exact Bool.noConfusion (hb.symm.trans (by assumption) : false = true) | (simp only [decide_eq_true_eq, decide_eq_false_iff_not, beq_iff_eq, beq_eq_false_iff_ne, bne_iff_ne, bne_eq_false_iff_eq, ne_eq, List.length_map, List.length_cons, List.length_nil, List.length_append, Bool.not_eq_true', Bool.not_eq_false'] at hb; exfalso; omega) | (exfalso; simp [ba_beq, IntKind.wrap, IntKind.bits, IntKind.signed] at hb; done)) | (show W _ _ _ _ _) | (show ∀ k, WL _ _ _ k _ _ _) | (show ∀ k, DL _ _ _ k _ _ _ _) | (show RoundEnd _ _ _ _ _) | refine fR ?_ | refine fRk ?_ | (show _ ∧ Go.Am.Fin _ _ _ _ _ _))
    | (show ∀ k, WL _ _ _ k _ _ _; first | refine fun k => lC (c0) (oW ?_ _) | refine fun k => lC (c1) (oW ?_ _) | refine fun k => lSA fits (oW ?_ _) | refine fun k => lL fits (oW ?_ _) | refine fun k => lQ fits (oW ?_ _) | refine fun k => lX fits (oW ?_ _) | refine fun k => lXa fits (oW ?_ _) | refine fun k => lXs fits (oW ?_ _) | refine fun k => lK fits (oW ?_ _) | refine fun k => lKa fits (oW ?_ _) | refine fun k => lLk fits (oW ?_ _) | refine fun k => lUp fits (oW ?_ _) | refine fun k => lDel fits (oW ?_ _) | refine fun k => lSt fits (oW ?_ _) | refine fun k => lLU fits (oW ?_ _) | refine fun k => lXw fits (oW ?_ _) | refine fun k => lLe fits (oW ?_ _) | refine fun k => lSe fits (oW ?_ _) | refine fun k => lM fits (oW ?_ _) | refine fun k => lA fits (oW ?_ _) | refine fun k => lA0 fits (oW ?_ _) | refine fun k => lA1 fits (oW ?_ _) | refine fun k => lMk fits (oW ?_ _) | refine fun k => lW fits (oW ?_ _))
    | (show ∀ k, DL _ _ _ k _ _ _ _; first | refine fun k => dC (c0) (oD ?_ _) | refine fun k => dC (c1) (oD ?_ _) | refine fun k => dSA fits (oD ?_ _) | refine fun k => dL fits (oD ?_ _) | refine fun k => dQ fits (oD ?_ _) | refine fun k => dX fits (oD ?_ _) | refine fun k => dXs fits (oD ?_ _) | refine fun k => dK fits (oD ?_ _) | refine fun k => dKa fits (oD ?_ _) | refine fun k => dLk fits (oD ?_ _) | refine fun k => dUp fits (oD ?_ _) | refine fun k => dA fits (oD ?_ _) | refine fun k => dA0 fits (oD ?_ _) | refine fun k => dSt fits (oD ?_ _) | refine fun k => dLU fits (oD ?_ _) | refine fun k => dXw fits (oD ?_ _) | refine fun k => dLe fits (oD ?_ _) | refine fun k => dSe fits (oD ?_ _) | refine fun k => dM fits (oD ?_ _) | refine fun k => dN fits (oD ?_ _) | refine fun k => dW fits (oD ?_ _)))
  exact ⟨rfl, rfl⟩
theorem all23 (l : List Chn) (d : Act) (n : Int) (a : Six) (v : Bool) (hl : l.length * 32 ≤ 2 ^ 47) (hb : ∀ c ∈ l, c.big) (hf : few23F l 0 = true) (hi : incrs l = v) (hn : 0 ≤ n ∧ n < 4294967296) : Comp Try.prog 5 [lst Chn.row l, .agg (d.row.map .d), int .u32 n, .agg (a.row.map .d)] (bool true) := by
  have c0 := alive23
  have c1 := few23R l (by omega) hb
  rw [hf] at c1
  obtain ⟨hln, hfi⟩ := few_fine hb hf
  have c2 := ofR l d (by omega) hfi
  have hled : ∀ c ∈ l, Comp Try.prog 19 [lst Stp.row c.steps, .agg (d.row.map .d), .agg (a.row.map .d)] (.agg ((ledActF a c.steps d).row.map .d)) := fun c hc => ledActR a c.steps d (hb c hc).2.1 (hb c hc).2.2
  generalize hwant : wantF a d n l d = want
  obtain ⟨dk, dd⟩ := d
  obtain ⟨wk, wd⟩ := want
  refine Spec.body (C := cx [] 190) fits (fn := Try.f5) Try.func5 rfl (by decide) (by decide) (gI ?_)
  repeat' (first
    | ((first | refine gC fits mixed ?_ | refine gC0 fits mixed ?_ | refine gO fits mixed ?_ | refine gR fits mixed ?_); (conv => whnf); first | (refine ⟨fun hb => ?_, fun hb => ?_⟩ <;> try first | (simp only [Bool.not_true, Bool.not_false, Bool.true_eq_false, Bool.false_eq_true, reduceCtorEq] at hb; done) | exact Bool.noConfusion (hb.symm.trans (by assumption) : true = false) | exact Bool.noConfusion (hb.symm.trans (by assumption) : false = true) | (simp only [decide_eq_true_eq, decide_eq_false_iff_not, beq_iff_eq, beq_eq_false_iff_ne, bne_iff_ne, bne_eq_false_iff_eq, ne_eq, List.length_map, List.length_cons, List.length_nil, List.length_append, Bool.not_eq_true', Bool.not_eq_false'] at hb; exfalso; omega) | (exfalso; simp [ba_beq, IntKind.wrap, IntKind.bits, IntKind.signed] at hb; done)) | (show W _ _ _ _ _) | (show ∀ k, WL _ _ _ k _ _ _) | (show ∀ k, DL _ _ _ k _ _ _ _) | (show RoundEnd _ _ _ _ _) | refine fR ?_ | refine fRk ?_ | (show _ ∧ Go.Am.Fin _ _ _ _ _ _))
    | (show ∀ k, WL _ _ _ k _ _ _; first | refine fun k => lC (c0) (oW ?_ _) | refine fun k => lC (c1) (oW ?_ _) | refine fun k => lSA fits (oW ?_ _) | refine fun k => lL fits (oW ?_ _) | refine fun k => lQ fits (oW ?_ _) | refine fun k => lX fits (oW ?_ _) | refine fun k => lXa fits (oW ?_ _) | refine fun k => lXs fits (oW ?_ _) | refine fun k => lK fits (oW ?_ _) | refine fun k => lKa fits (oW ?_ _) | refine fun k => lLk fits (oW ?_ _) | refine fun k => lUp fits (oW ?_ _) | refine fun k => lDel fits (oW ?_ _) | refine fun k => lSt fits (oW ?_ _) | refine fun k => lLU fits (oW ?_ _) | refine fun k => lXw fits (oW ?_ _) | refine fun k => lLe fits (oW ?_ _) | refine fun k => lSe fits (oW ?_ _) | refine fun k => lM fits (oW ?_ _) | refine fun k => lA fits (oW ?_ _) | refine fun k => lA0 fits (oW ?_ _) | refine fun k => lA1 fits (oW ?_ _) | refine fun k => lMk fits (oW ?_ _) | refine fun k => lW fits (oW ?_ _))
    | (show ∀ k, DL _ _ _ k _ _ _ _; first | refine fun k => dC (c0) (oD ?_ _) | refine fun k => dC (c1) (oD ?_ _) | refine fun k => dSA fits (oD ?_ _) | refine fun k => dL fits (oD ?_ _) | refine fun k => dQ fits (oD ?_ _) | refine fun k => dX fits (oD ?_ _) | refine fun k => dXs fits (oD ?_ _) | refine fun k => dK fits (oD ?_ _) | refine fun k => dKa fits (oD ?_ _) | refine fun k => dLk fits (oD ?_ _) | refine fun k => dUp fits (oD ?_ _) | refine fun k => dA fits (oD ?_ _) | refine fun k => dA0 fits (oD ?_ _) | refine fun k => dSt fits (oD ?_ _) | refine fun k => dLU fits (oD ?_ _) | refine fun k => dXw fits (oD ?_ _) | refine fun k => dLe fits (oD ?_ _) | refine fun k => dSe fits (oD ?_ _) | refine fun k => dM fits (oD ?_ _) | refine fun k => dN fits (oD ?_ _) | refine fun k => dW fits (oD ?_ _)))
  refine wLoop [0, 2, 5, 7, 10, 11] 3 (l.length + 1) ?_
  refine (fun key => key l [] _ ⟨dk, dd⟩ rfl rfl (fun _ => hi) (fun _ _ h => by simp at h) hwant :
    (∀ (rest done : List Chn) (j : Int) (w : Act), l = done ++ rest → j = done.length → (done = [] → incrs rest = v) → (∀ ds p, done = ds ++ [p] → incr p.nr rest = v) → wantF a ⟨dk, dd⟩ n rest w = ⟨wk, wd⟩ →
    WR2 _ _ _ _ _ (rest.length + 1) [(0, lst Chn.row l), (2, int .u32 n), (5, .one (.ptr 0 0)), (7, .one (.ptr 1 0)), (10, .one (.ptr 2 0)), (11, int .i64 j)] [.var [.d (.sc (.int .i64 dk)), .d (.sc (.int .i64 dd))], .var (a.row.map .d), .var (w.row.map .d)]) → _) ?_
  intro rest
  induction rest with
  | nil =>
    intro done j w h1 hj h2 h3 h4
    have hv : v = true := by
      rcases List.eq_nil_or_concat done with rfl | ⟨ds, p, rfl⟩
      · rw [← h2 rfl]; rfl
      · rw [← h3 ds p (by simp)]; rfl
    subst hv
    have h4 : w = ⟨wk, wd⟩ := h4
    subst h4
    have hlen : l.length = done.length := by rw [h1]; simp
    clear hled
    have hxl := ofF_len ⟨dk, dd⟩ l 0 []
    have hgo := ofF_good ⟨dk, dd⟩ l 0 [] hfi (by simp)
    obtain ⟨ht, hap, hva⟩ := of_all a ⟨dk, dd⟩ l hfi hi
    generalize ofF ⟨dk, dd⟩ l 0 [] = x at *
    simp only [List.length_nil] at hxl
    have c3 := findR n x (by omega)
    obtain ⟨pre, s, post, hx, hpre, hs1, hs2⟩ := tiled_find ht hn.1 hn.2
    have hix : ixF (Span.has n) x 0 = pre.length := by
      rw [hx, ixF_at _ _ _ _ _ hpre (by simp [Span.has, hs1, hs2])]; omega
    rw [hix] at c3
    have hxn : 0 < x.length := by rw [hx]; simp; omega
    have hprel : pre.length < x.length := by rw [hx]; simp
    have grow := at_mid (f := Span.row) hx (j := (pre.length : Int)) rfl
    have hsg := hgo s (by rw [hx]; simp)
    have c4 := ledActR a s.steps s.act hsg.1 (fun t ht => ⟨by have := (hsg.2 t ht).1; omega, fun c hc => by have := (hsg.2 t ht).2 c hc; omega⟩)
    have e4 : ledActF a s.steps s.act = ⟨wk, wd⟩ := by rw [hva s (by rw [hx]; simp) n hs1 hs2]; exact hwant
    rw [e4] at c4
    obtain ⟨s0, xs, hx0⟩ : ∃ s0 xs, x = s0 :: xs := by
      rcases x with _ | ⟨s0, xs⟩
      · simp at hxn
      · exact ⟨s0, xs, rfl⟩
    have g0 : (x.map Span.row)[(0 : Int).toNat]? = some s0.row := by rw [hx0]; rfl
    have e0 : s0.lo = 0 := by rw [hx0] at ht; exact ht.1
    obtain ⟨ys, sl, hxe⟩ : ∃ ys sl, x = ys ++ [sl] := by
      rcases List.eq_nil_or_concat x with rfl | ⟨ys, sl, h⟩
      · simp at hxn
      · exact ⟨ys, sl, by rw [h, List.concat_eq_append]⟩
    have ej : IntKind.wrap .i64 (((x.map Span.row).length : Int) - 1) = ys.length := by
      rw [List.length_map, wrap_ok (by omega) (by omega), hxe]; simp
    have ej0 : 0 ≤ IntKind.wrap .i64 (((x.map Span.row).length : Int) - 1) := by omega
    have gl : (x.map Span.row)[(IntKind.wrap .i64 (((x.map Span.row).length : Int) - 1)).toNat]? = some sl.row := at_mid hxe ej
    have el : sl.hi = 4294967295 := by rw [hxe] at ht; have := tiled_last ht; omega
    have b0 : (((x.map Span.row).length : Int) == 0) = false := by rw [List.length_map, beq_eq_false_iff_ne]; omega
    have b1 : (!(s0.lo == 0)) = false := by rw [e0]; rfl
    have b2 : (!(sl.hi == 4294967295)) = false := by rw [el]; rfl
    have b3 : decide (n ≥ s.lo) = true := decide_eq_true hs1
    have b4 : decide (s.lo ≤ n) = true := decide_eq_true hs1
    have b5 : decide (n ≤ s.hi) = true := decide_eq_true hs2
    have b6 : (wk == wk && (wd == wd && true)) = true := by simp
    have b7 : decide ((pre.length : Int) ≥ 0) = true := decide_eq_true (by omega)
    have b8 : decide ((pre.length : Int) < ((x.map Span.row).length : Int)) = true := decide_eq_true (by rw [List.length_map]; omega)
    have hpl : 0 ≤ (pre.length : Int) := by omega
    obtain ⟨l0, i0, st0, ⟨ak0, ad0⟩⟩ := s0
    obtain ⟨ll, il, stl, ⟨akl, adl⟩⟩ := sl
    obtain ⟨ls, is, sts, ⟨aks, ads⟩⟩ := s
    refine wR (gI ?_)
    repeat' (first
    | ((first | refine gC fits mixed ?_ | refine gC0 fits mixed ?_ | refine gO fits mixed ?_ | refine gR fits mixed ?_); (conv => whnf); first | (refine ⟨fun hb => ?_, fun hb => ?_⟩ <;> try first | (simp only [Bool.not_true, Bool.not_false, Bool.true_eq_false, Bool.false_eq_true, reduceCtorEq] at hb; done) | exact Bool.noConfusion (hb.symm.trans (by assumption) : true = false) | exact Bool.noConfusion (hb.symm.trans (by assumption) : false = true) | (simp only [decide_eq_true_eq, decide_eq_false_iff_not, beq_iff_eq, beq_eq_false_iff_ne, bne_iff_ne, bne_eq_false_iff_eq, ne_eq, List.length_map, List.length_cons, List.length_nil, List.length_append, Bool.not_eq_true', Bool.not_eq_false'] at hb; exfalso; omega) | (exfalso; simp [ba_beq, IntKind.wrap, IntKind.bits, IntKind.signed] at hb; done)) | (show W _ _ _ _ _) | (show ∀ k, WL _ _ _ k _ _ _) | (show ∀ k, DL _ _ _ k _ _ _ _) | (show RoundEnd _ _ _ _ _) | refine fR ?_ | refine fRk ?_ | (show _ ∧ Go.Am.Fin _ _ _ _ _ _))
    | (show ∀ k, WL _ _ _ k _ _ _; first | refine fun k => lC (c2) (oW ?_ _) | refine fun k => lSA fits (oW ?_ _) | refine fun k => lL fits (oW ?_ _) | refine fun k => lQ fits (oW ?_ _) | refine fun k => lX fits (oW ?_ _) | refine fun k => lXa fits (oW ?_ _) | refine fun k => lXs fits (oW ?_ _) | refine fun k => lK fits (oW ?_ _) | refine fun k => lKa fits (oW ?_ _) | refine fun k => lLk fits (oW ?_ _) | refine fun k => lUp fits (oW ?_ _) | refine fun k => lDel fits (oW ?_ _) | refine fun k => lSt fits (oW ?_ _) | refine fun k => lLU fits (oW ?_ _) | refine fun k => lXw fits (oW ?_ _) | refine fun k => lLe fits (oW ?_ _) | refine fun k => lSe fits (oW ?_ _) | refine fun k => lM fits (oW ?_ _) | refine fun k => lA fits (oW ?_ _) | refine fun k => lA0 fits (oW ?_ _) | refine fun k => lA1 fits (oW ?_ _) | refine fun k => lMk fits (oW ?_ _) | refine fun k => lW fits (oW ?_ _))
    | (show ∀ k, DL _ _ _ k _ _ _ _; first | refine fun k => dC (c2) (oD ?_ _) | refine fun k => dSA fits (oD ?_ _) | refine fun k => dL fits (oD ?_ _) | refine fun k => dQ fits (oD ?_ _) | refine fun k => dX fits (oD ?_ _) | refine fun k => dXs fits (oD ?_ _) | refine fun k => dK fits (oD ?_ _) | refine fun k => dKa fits (oD ?_ _) | refine fun k => dLk fits (oD ?_ _) | refine fun k => dUp fits (oD ?_ _) | refine fun k => dA fits (oD ?_ _) | refine fun k => dA0 fits (oD ?_ _) | refine fun k => dSt fits (oD ?_ _) | refine fun k => dLU fits (oD ?_ _) | refine fun k => dXw fits (oD ?_ _) | refine fun k => dLe fits (oD ?_ _) | refine fun k => dSe fits (oD ?_ _) | refine fun k => dM fits (oD ?_ _) | refine fun k => dN fits (oD ?_ _) | refine fun k => dW fits (oD ?_ _)))
    clear b0 b1 b2 g0 gl ej ej0 e0 el hix hva hpre
    refine wLoop [2, 7, 10, 12, 13] 3 (xs.length + 2) ?_
    refine (fun key => key xs [] _ _ hx0 rfl :
      (∀ (rest done : List Span) (p : Span) (j : Int), x = done ++ p :: rest → j = done.length + 1 →
      WR2 _ _ _ _ _ (rest.length + 2) [(2, int .u32 n), (7, .one (.ptr 1 0)), (10, .one (.ptr 2 0)), (12, lst Span.row x), (13, int .i64 j)] [.var [.d (.sc (.int .i64 dk)), .d (.sc (.int .i64 dd))], .var (a.row.map .d), .var [.d (.sc (.int .i64 wk)), .d (.sc (.int .i64 wd))]]) → _) ?_
    intro rest
    induction rest with
    | nil =>
      intro done p j k1 hj
      have hlen2 : x.length = done.length + 1 := by rw [k1]; simp
      refine WR2.mono (n := 1) (wR (gI ?_)) (by omega)
      repeat' (first
    | ((first | refine gC fits mixed ?_ | refine gC0 fits mixed ?_ | refine gO fits mixed ?_ | refine gR fits mixed ?_); (conv => whnf); first | (refine ⟨fun hb => ?_, fun hb => ?_⟩ <;> try first | (simp only [Bool.not_true, Bool.not_false, Bool.true_eq_false, Bool.false_eq_true, reduceCtorEq] at hb; done) | exact Bool.noConfusion (hb.symm.trans (by assumption) : true = false) | exact Bool.noConfusion (hb.symm.trans (by assumption) : false = true) | (simp only [decide_eq_true_eq, decide_eq_false_iff_not, beq_iff_eq, beq_eq_false_iff_ne, bne_iff_ne, bne_eq_false_iff_eq, ne_eq, List.length_map, List.length_cons, List.length_nil, List.length_append, Bool.not_eq_true', Bool.not_eq_false'] at hb; exfalso; omega) | (exfalso; simp [ba_beq, IntKind.wrap, IntKind.bits, IntKind.signed] at hb; done)) | (show W _ _ _ _ _) | (show ∀ k, WL _ _ _ k _ _ _) | (show ∀ k, DL _ _ _ k _ _ _ _) | (show RoundEnd _ _ _ _ _) | refine fR ?_ | refine fRk ?_ | (show _ ∧ Go.Am.Fin _ _ _ _ _ _))
    | (show ∀ k, WL _ _ _ k _ _ _; first | refine fun k => lC (c3) (oW ?_ _) | refine fun k => lC (c4) (oW ?_ _) | refine fun k => lSA fits (oW ?_ _) | refine fun k => lL fits (oW ?_ _) | refine fun k => lQ fits (oW ?_ _) | refine fun k => lX fits (oW ?_ _) | refine fun k => lXa fits (oW ?_ _) | refine fun k => lXs fits (oW ?_ _) | refine fun k => lK fits (oW ?_ _) | refine fun k => lKa fits (oW ?_ _) | refine fun k => lLk fits (oW ?_ _) | refine fun k => lUp fits (oW ?_ _) | refine fun k => lDel fits (oW ?_ _) | refine fun k => lSt fits (oW ?_ _) | refine fun k => lLU fits (oW ?_ _) | refine fun k => lXw fits (oW ?_ _) | refine fun k => lLe fits (oW ?_ _) | refine fun k => lSe fits (oW ?_ _) | refine fun k => lM fits (oW ?_ _) | refine fun k => lA fits (oW ?_ _) | refine fun k => lA0 fits (oW ?_ _) | refine fun k => lA1 fits (oW ?_ _) | refine fun k => lMk fits (oW ?_ _) | refine fun k => lW fits (oW ?_ _))
    | (show ∀ k, DL _ _ _ k _ _ _ _; first | refine fun k => dC (c3) (oD ?_ _) | refine fun k => dC (c4) (oD ?_ _) | refine fun k => dSA fits (oD ?_ _) | refine fun k => dL fits (oD ?_ _) | refine fun k => dQ fits (oD ?_ _) | refine fun k => dX fits (oD ?_ _) | refine fun k => dXs fits (oD ?_ _) | refine fun k => dK fits (oD ?_ _) | refine fun k => dKa fits (oD ?_ _) | refine fun k => dLk fits (oD ?_ _) | refine fun k => dUp fits (oD ?_ _) | refine fun k => dA fits (oD ?_ _) | refine fun k => dA0 fits (oD ?_ _) | refine fun k => dSt fits (oD ?_ _) | refine fun k => dLU fits (oD ?_ _) | refine fun k => dXw fits (oD ?_ _) | refine fun k => dLe fits (oD ?_ _) | refine fun k => dSe fits (oD ?_ _) | refine fun k => dM fits (oD ?_ _) | refine fun k => dN fits (oD ?_ _) | refine fun k => dW fits (oD ?_ _)))
      all_goals first | exact ⟨rfl, rfl⟩ | trace_state
    | cons q rest ih2 =>
      intro done p j k1 hj
      have hlen2 : x.length = done.length + (rest.length + 2) := by rw [k1]; simp
      obtain ⟨t1, t2, t3, t4⟩ := tiled_pair (by rw [← k1]; exact ht) (by omega)
      have hdf := apart_pair (by rw [← k1]; exact hap)
      have ej : IntKind.wrap .i64 (j - 1) = done.length := by rw [wrap_ok (by omega) (by omega)]; omega
      have ej0 : 0 ≤ IntKind.wrap .i64 (j - 1) := by omega
      have gq : (x.map Span.row)[j.toNat]? = some q.row := at_mid (done := done ++ [p]) (rest := rest) (by rw [k1]; simp) (by rw [hj]; simp)
      have gp : (x.map Span.row)[(IntKind.wrap .i64 (j - 1)).toNat]? = some p.row := at_mid k1 ej
      have b1 : (!(q.lo == IntKind.wrap .u32 (p.hi + 1))) = false := by rw [wrap_u32 (by omega) (by omega), t1]; simp
      have b2 : (q.lo == 0) = false := by rw [beq_eq_false_iff_ne]; omega
      have hqg := hgo q (by rw [k1]; simp)
      have c5 := sameStepsR q.steps p.steps hqg.1 hqg.2
      have hw : IntKind.wrap .i64 (j + 1) = ((done ++ [p]).length : Int) + 1 := by rw [wrap_ok (by omega) (by omega)]; simp [hj]
      have hnext := fun j' h => ih2 (done ++ [p]) q j' (by rw [k1]; simp) h
      cases hcl : q.act.eq2 p.act with
      | true =>
        have e1 := Act.eq2_iff.1 hcl
        have e2 : pw Stp.eqb q.steps p.steps = false := by
          rw [Bool.eq_false_iff]
          intro h
          exact hdf ⟨e1, pw_eq Stp.eqb_eq h⟩
        rw [e2] at c5
        obtain ⟨pl, pi, pst, ⟨pk, pd⟩⟩ := p
        obtain ⟨ql, qi, qst, ⟨qk, qd⟩⟩ := q
        have b3 : (qk == pk && (qd == pd && true)) = true := hcl
        refine wR (gI ?_)
        repeat' (first
    | ((first | refine gC fits mixed ?_ | refine gC0 fits mixed ?_ | refine gO fits mixed ?_ | refine gR fits mixed ?_); (conv => whnf); first | (refine ⟨fun hb => ?_, fun hb => ?_⟩ <;> try first | (simp only [Bool.not_true, Bool.not_false, Bool.true_eq_false, Bool.false_eq_true, reduceCtorEq] at hb; done) | exact Bool.noConfusion (hb.symm.trans (by assumption) : true = false) | exact Bool.noConfusion (hb.symm.trans (by assumption) : false = true) | (simp only [decide_eq_true_eq, decide_eq_false_iff_not, beq_iff_eq, beq_eq_false_iff_ne, bne_iff_ne, bne_eq_false_iff_eq, ne_eq, List.length_map, List.length_cons, List.length_nil, List.length_append, Bool.not_eq_true', Bool.not_eq_false'] at hb; exfalso; omega) | (exfalso; simp [ba_beq, IntKind.wrap, IntKind.bits, IntKind.signed] at hb; done)) | (show W _ _ _ _ _) | (show ∀ k, WL _ _ _ k _ _ _) | (show ∀ k, DL _ _ _ k _ _ _ _) | (show RoundEnd _ _ _ _ _) | refine fR ?_ | refine fRk ?_ | (show _ ∧ Go.Am.Fin _ _ _ _ _ _))
    | (show ∀ k, WL _ _ _ k _ _ _; first | refine fun k => lC (c5) (oW ?_ _) | refine fun k => lSA fits (oW ?_ _) | refine fun k => lL fits (oW ?_ _) | refine fun k => lQ fits (oW ?_ _) | refine fun k => lX fits (oW ?_ _) | refine fun k => lXa fits (oW ?_ _) | refine fun k => lXs fits (oW ?_ _) | refine fun k => lK fits (oW ?_ _) | refine fun k => lKa fits (oW ?_ _) | refine fun k => lLk fits (oW ?_ _) | refine fun k => lUp fits (oW ?_ _) | refine fun k => lDel fits (oW ?_ _) | refine fun k => lSt fits (oW ?_ _) | refine fun k => lLU fits (oW ?_ _) | refine fun k => lXw fits (oW ?_ _) | refine fun k => lLe fits (oW ?_ _) | refine fun k => lSe fits (oW ?_ _) | refine fun k => lM fits (oW ?_ _) | refine fun k => lA fits (oW ?_ _) | refine fun k => lA0 fits (oW ?_ _) | refine fun k => lA1 fits (oW ?_ _) | refine fun k => lMk fits (oW ?_ _) | refine fun k => lW fits (oW ?_ _))
    | (show ∀ k, DL _ _ _ k _ _ _ _; first | refine fun k => dC (c5) (oD ?_ _) | refine fun k => dSA fits (oD ?_ _) | refine fun k => dL fits (oD ?_ _) | refine fun k => dQ fits (oD ?_ _) | refine fun k => dX fits (oD ?_ _) | refine fun k => dXs fits (oD ?_ _) | refine fun k => dK fits (oD ?_ _) | refine fun k => dKa fits (oD ?_ _) | refine fun k => dLk fits (oD ?_ _) | refine fun k => dUp fits (oD ?_ _) | refine fun k => dA fits (oD ?_ _) | refine fun k => dA0 fits (oD ?_ _) | refine fun k => dSt fits (oD ?_ _) | refine fun k => dLU fits (oD ?_ _) | refine fun k => dXw fits (oD ?_ _) | refine fun k => dLe fits (oD ?_ _) | refine fun k => dSe fits (oD ?_ _) | refine fun k => dM fits (oD ?_ _) | refine fun k => dN fits (oD ?_ _) | refine fun k => dW fits (oD ?_ _)))
        all_goals exact rE (hnext _ hw)
      | false =>
        obtain ⟨pl, pi, pst, ⟨pk, pd⟩⟩ := p
        obtain ⟨ql, qi, qst, ⟨qk, qd⟩⟩ := q
        have b3 : (qk == pk && (qd == pd && true)) = false := hcl
        refine wR (gI ?_)
        repeat' (first
    | ((first | refine gC fits mixed ?_ | refine gC0 fits mixed ?_ | refine gO fits mixed ?_ | refine gR fits mixed ?_); (conv => whnf); first | (refine ⟨fun hb => ?_, fun hb => ?_⟩ <;> try first | (simp only [Bool.not_true, Bool.not_false, Bool.true_eq_false, Bool.false_eq_true, reduceCtorEq] at hb; done) | exact Bool.noConfusion (hb.symm.trans (by assumption) : true = false) | exact Bool.noConfusion (hb.symm.trans (by assumption) : false = true) | (simp only [decide_eq_true_eq, decide_eq_false_iff_not, beq_iff_eq, beq_eq_false_iff_ne, bne_iff_ne, bne_eq_false_iff_eq, ne_eq, List.length_map, List.length_cons, List.length_nil, List.length_append, Bool.not_eq_true', Bool.not_eq_false'] at hb; exfalso; omega) | (exfalso; simp [ba_beq, IntKind.wrap, IntKind.bits, IntKind.signed] at hb; done)) | (show W _ _ _ _ _) | (show ∀ k, WL _ _ _ k _ _ _) | (show ∀ k, DL _ _ _ k _ _ _ _) | (show RoundEnd _ _ _ _ _) | refine fR ?_ | refine fRk ?_ | (show _ ∧ Go.Am.Fin _ _ _ _ _ _))
    | (show ∀ k, WL _ _ _ k _ _ _; first | refine fun k => lC (c5) (oW ?_ _) | refine fun k => lSA fits (oW ?_ _) | refine fun k => lL fits (oW ?_ _) | refine fun k => lQ fits (oW ?_ _) | refine fun k => lX fits (oW ?_ _) | refine fun k => lXa fits (oW ?_ _) | refine fun k => lXs fits (oW ?_ _) | refine fun k => lK fits (oW ?_ _) | refine fun k => lKa fits (oW ?_ _) | refine fun k => lLk fits (oW ?_ _) | refine fun k => lUp fits (oW ?_ _) | refine fun k => lDel fits (oW ?_ _) | refine fun k => lSt fits (oW ?_ _) | refine fun k => lLU fits (oW ?_ _) | refine fun k => lXw fits (oW ?_ _) | refine fun k => lLe fits (oW ?_ _) | refine fun k => lSe fits (oW ?_ _) | refine fun k => lM fits (oW ?_ _) | refine fun k => lA fits (oW ?_ _) | refine fun k => lA0 fits (oW ?_ _) | refine fun k => lA1 fits (oW ?_ _) | refine fun k => lMk fits (oW ?_ _) | refine fun k => lW fits (oW ?_ _))
    | (show ∀ k, DL _ _ _ k _ _ _ _; first | refine fun k => dC (c5) (oD ?_ _) | refine fun k => dSA fits (oD ?_ _) | refine fun k => dL fits (oD ?_ _) | refine fun k => dQ fits (oD ?_ _) | refine fun k => dX fits (oD ?_ _) | refine fun k => dXs fits (oD ?_ _) | refine fun k => dK fits (oD ?_ _) | refine fun k => dKa fits (oD ?_ _) | refine fun k => dLk fits (oD ?_ _) | refine fun k => dUp fits (oD ?_ _) | refine fun k => dA fits (oD ?_ _) | refine fun k => dA0 fits (oD ?_ _) | refine fun k => dSt fits (oD ?_ _) | refine fun k => dLU fits (oD ?_ _) | refine fun k => dXw fits (oD ?_ _) | refine fun k => dLe fits (oD ?_ _) | refine fun k => dSe fits (oD ?_ _) | refine fun k => dM fits (oD ?_ _) | refine fun k => dN fits (oD ?_ _) | refine fun k => dW fits (oD ?_ _)))
        all_goals exact rE (hnext _ hw)
  | cons c rest ih =>
    intro done j w h1 hj h2 h3 h4
    have hlen : l.length = done.length + (rest.length + 1) := by rw [h1]; simp
    have cl := hled c (by rw [h1]; simp)
    have gx := at_mid (f := Chn.row) h1 hj
    rw [wantF] at h4
    generalize hla : ledActF a c.steps ⟨dk, dd⟩ = la at cl h4
    obtain ⟨lk, ld⟩ := la
    have hi1 : (done ++ [c] = [] → incrs rest = v) := by simp
    have hj1 : IntKind.wrap .i64 (j + 1) = ((done ++ [c]).length : Int) := by rw [wrap_ok (by omega) (by omega)]; simp [hj]
    have hl1 : l = (done ++ [c]) ++ rest := by rw [h1]; simp
    rcases List.eq_nil_or_concat done with rfl | ⟨ds, p, rfl⟩
    · have hj0 : j = 0 := by simpa using hj
      subst hj0
      have hi2 : (∀ ds p, [] ++ [c] = ds ++ [p] → incr p.nr rest = v) := fun ds p h => by
        have : c = p := by
          have := congrArg List.getLast? h
          simpa using this
        subst this
        exact h2 rfl
      obtain ⟨nr, st⟩ := c
      refine wR (gI ?_)
      repeat' (first
    | ((first | refine gC fits mixed ?_ | refine gC0 fits mixed ?_ | refine gO fits mixed ?_ | refine gR fits mixed ?_); (conv => whnf); first | (refine ⟨fun hb => ?_, fun hb => ?_⟩ <;> try first | (simp only [Bool.not_true, Bool.not_false, Bool.true_eq_false, Bool.false_eq_true, reduceCtorEq] at hb; done) | exact Bool.noConfusion (hb.symm.trans (by assumption) : true = false) | exact Bool.noConfusion (hb.symm.trans (by assumption) : false = true) | (simp only [decide_eq_true_eq, decide_eq_false_iff_not, beq_iff_eq, beq_eq_false_iff_ne, bne_iff_ne, bne_eq_false_iff_eq, ne_eq, List.length_map, List.length_cons, List.length_nil, List.length_append, Bool.not_eq_true', Bool.not_eq_false'] at hb; exfalso; omega) | (exfalso; simp [ba_beq, IntKind.wrap, IntKind.bits, IntKind.signed] at hb; done)) | (show W _ _ _ _ _) | (show ∀ k, WL _ _ _ k _ _ _) | (show ∀ k, DL _ _ _ k _ _ _ _) | (show RoundEnd _ _ _ _ _) | refine fR ?_ | refine fRk ?_ | (show _ ∧ Go.Am.Fin _ _ _ _ _ _))
    | (show ∀ k, WL _ _ _ k _ _ _; first | refine fun k => lC (cl) (oW ?_ _) | refine fun k => lSA fits (oW ?_ _) | refine fun k => lL fits (oW ?_ _) | refine fun k => lQ fits (oW ?_ _) | refine fun k => lX fits (oW ?_ _) | refine fun k => lXa fits (oW ?_ _) | refine fun k => lXs fits (oW ?_ _) | refine fun k => lK fits (oW ?_ _) | refine fun k => lKa fits (oW ?_ _) | refine fun k => lLk fits (oW ?_ _) | refine fun k => lUp fits (oW ?_ _) | refine fun k => lDel fits (oW ?_ _) | refine fun k => lSt fits (oW ?_ _) | refine fun k => lLU fits (oW ?_ _) | refine fun k => lXw fits (oW ?_ _) | refine fun k => lLe fits (oW ?_ _) | refine fun k => lSe fits (oW ?_ _) | refine fun k => lM fits (oW ?_ _) | refine fun k => lA fits (oW ?_ _) | refine fun k => lA0 fits (oW ?_ _) | refine fun k => lA1 fits (oW ?_ _) | refine fun k => lMk fits (oW ?_ _) | refine fun k => lW fits (oW ?_ _))
    | (show ∀ k, DL _ _ _ k _ _ _ _; first | refine fun k => dC (cl) (oD ?_ _) | refine fun k => dSA fits (oD ?_ _) | refine fun k => dL fits (oD ?_ _) | refine fun k => dQ fits (oD ?_ _) | refine fun k => dX fits (oD ?_ _) | refine fun k => dXs fits (oD ?_ _) | refine fun k => dK fits (oD ?_ _) | refine fun k => dKa fits (oD ?_ _) | refine fun k => dLk fits (oD ?_ _) | refine fun k => dUp fits (oD ?_ _) | refine fun k => dA fits (oD ?_ _) | refine fun k => dA0 fits (oD ?_ _) | refine fun k => dSt fits (oD ?_ _) | refine fun k => dLU fits (oD ?_ _) | refine fun k => dXw fits (oD ?_ _) | refine fun k => dLe fits (oD ?_ _) | refine fun k => dSe fits (oD ?_ _) | refine fun k => dM fits (oD ?_ _) | refine fun k => dN fits (oD ?_ _) | refine fun k => dW fits (oD ?_ _)))
      · have hb2 : nr = n := by simpa using hb
        rw [if_pos hb2] at h4
        exact rE (ih _ _ ⟨lk, ld⟩ hl1 hj1 hi1 hi2 h4)
      · have hb2 : ¬ nr = n := by simpa using hb
        rw [if_neg hb2] at h4
        exact rE (ih _ _ w hl1 hj1 hi1 hi2 h4)
    · rw [List.concat_eq_append] at *
      have h3' := h3 ds p rfl
      simp only [incr] at h3'
      have hj2 : j = ds.length + 1 := by simpa using hj
      have ej : IntKind.wrap .i64 (j - 1) = ds.length := by rw [wrap_ok (by omega) (by omega)]; omega
      have ej0 : 0 ≤ IntKind.wrap .i64 (j - 1) := by omega
      have gp : (l.map Chn.row)[(IntKind.wrap .i64 (j - 1)).toNat]? = some p.row := at_mid (done := ds) (rest := c :: rest) (by rw [h1]; simp) ej
      by_cases hle : c.nr ≤ p.nr
      · rw [if_pos hle] at h3'
        subst h3'
        have hi' : incr (0 - 1) l = false := by rw [← incrs_eq hfi]; exact hi
        rw [incr_bad ⟨dk, dd⟩ l 0 [] hi'] at c2
        obtain ⟨nr, st⟩ := c
        obtain ⟨np, sp⟩ := p
        have b1 : decide (nr ≤ np) = true := decide_eq_true hle
        refine wR (gI ?_)
        repeat' (first
    | ((first | refine gC fits mixed ?_ | refine gC0 fits mixed ?_ | refine gO fits mixed ?_ | refine gR fits mixed ?_); (conv => whnf); first | (refine ⟨fun hb => ?_, fun hb => ?_⟩ <;> try first | (simp only [Bool.not_true, Bool.not_false, Bool.true_eq_false, Bool.false_eq_true, reduceCtorEq] at hb; done) | exact Bool.noConfusion (hb.symm.trans (by assumption) : true = false) | exact Bool.noConfusion (hb.symm.trans (by assumption) : false = true) | (simp only [decide_eq_true_eq, decide_eq_false_iff_not, beq_iff_eq, beq_eq_false_iff_ne, bne_iff_ne, bne_eq_false_iff_eq, ne_eq, List.length_map, List.length_cons, List.length_nil, List.length_append, Bool.not_eq_true', Bool.not_eq_false'] at hb; exfalso; omega) | (exfalso; simp [ba_beq, IntKind.wrap, IntKind.bits, IntKind.signed] at hb; done)) | (show W _ _ _ _ _) | (show ∀ k, WL _ _ _ k _ _ _) | (show ∀ k, DL _ _ _ k _ _ _ _) | (show RoundEnd _ _ _ _ _) | refine fR ?_ | refine fRk ?_ | (show _ ∧ Go.Am.Fin _ _ _ _ _ _))
    | (show ∀ k, WL _ _ _ k _ _ _; first | refine fun k => lC (c2) (oW ?_ _) | refine fun k => lSA fits (oW ?_ _) | refine fun k => lL fits (oW ?_ _) | refine fun k => lQ fits (oW ?_ _) | refine fun k => lX fits (oW ?_ _) | refine fun k => lXa fits (oW ?_ _) | refine fun k => lXs fits (oW ?_ _) | refine fun k => lK fits (oW ?_ _) | refine fun k => lKa fits (oW ?_ _) | refine fun k => lLk fits (oW ?_ _) | refine fun k => lUp fits (oW ?_ _) | refine fun k => lDel fits (oW ?_ _) | refine fun k => lSt fits (oW ?_ _) | refine fun k => lLU fits (oW ?_ _) | refine fun k => lXw fits (oW ?_ _) | refine fun k => lLe fits (oW ?_ _) | refine fun k => lSe fits (oW ?_ _) | refine fun k => lM fits (oW ?_ _) | refine fun k => lA fits (oW ?_ _) | refine fun k => lA0 fits (oW ?_ _) | refine fun k => lA1 fits (oW ?_ _) | refine fun k => lMk fits (oW ?_ _) | refine fun k => lW fits (oW ?_ _))
    | (show ∀ k, DL _ _ _ k _ _ _ _; first | refine fun k => dC (c2) (oD ?_ _) | refine fun k => dSA fits (oD ?_ _) | refine fun k => dL fits (oD ?_ _) | refine fun k => dQ fits (oD ?_ _) | refine fun k => dX fits (oD ?_ _) | refine fun k => dXs fits (oD ?_ _) | refine fun k => dK fits (oD ?_ _) | refine fun k => dKa fits (oD ?_ _) | refine fun k => dLk fits (oD ?_ _) | refine fun k => dUp fits (oD ?_ _) | refine fun k => dA fits (oD ?_ _) | refine fun k => dA0 fits (oD ?_ _) | refine fun k => dSt fits (oD ?_ _) | refine fun k => dLU fits (oD ?_ _) | refine fun k => dXw fits (oD ?_ _) | refine fun k => dLe fits (oD ?_ _) | refine fun k => dSe fits (oD ?_ _) | refine fun k => dM fits (oD ?_ _) | refine fun k => dN fits (oD ?_ _) | refine fun k => dW fits (oD ?_ _)))
        all_goals first | exact ⟨rfl, rfl⟩ | (exfalso; have := of_decide_eq_false hb; omega)
      · rw [if_neg hle] at h3'
        have hi2 : (∀ ds' p', (ds ++ [p]) ++ [c] = ds' ++ [p'] → incr p'.nr rest = v) := fun ds' p' h => by
          have : c = p' := by
            have := congrArg List.getLast? h
            simpa using this
          subst this
          exact h3'
        obtain ⟨nr, st⟩ := c
        obtain ⟨np, sp⟩ := p
        have b1 : decide (nr ≤ np) = false := decide_eq_false hle
        refine wR (gI ?_)
        repeat' (first
    | ((first | refine gC fits mixed ?_ | refine gC0 fits mixed ?_ | refine gO fits mixed ?_ | refine gR fits mixed ?_); (conv => whnf); first | (refine ⟨fun hb => ?_, fun hb => ?_⟩ <;> try first | (simp only [Bool.not_true, Bool.not_false, Bool.true_eq_false, Bool.false_eq_true, reduceCtorEq] at hb; done) | exact Bool.noConfusion (hb.symm.trans (by assumption) : true = false) | exact Bool.noConfusion (hb.symm.trans (by assumption) : false = true) | (simp only [decide_eq_true_eq, decide_eq_false_iff_not, beq_iff_eq, beq_eq_false_iff_ne, bne_iff_ne, bne_eq_false_iff_eq, ne_eq, List.length_map, List.length_cons, List.length_nil, List.length_append, Bool.not_eq_true', Bool.not_eq_false'] at hb; exfalso; omega) | (exfalso; simp [ba_beq, IntKind.wrap, IntKind.bits, IntKind.signed] at hb; done)) | (show W _ _ _ _ _) | (show ∀ k, WL _ _ _ k _ _ _) | (show ∀ k, DL _ _ _ k _ _ _ _) | (show RoundEnd _ _ _ _ _) | refine fR ?_ | refine fRk ?_ | (show _ ∧ Go.Am.Fin _ _ _ _ _ _))
    | (show ∀ k, WL _ _ _ k _ _ _; first | refine fun k => lC (cl) (oW ?_ _) | refine fun k => lSA fits (oW ?_ _) | refine fun k => lL fits (oW ?_ _) | refine fun k => lQ fits (oW ?_ _) | refine fun k => lX fits (oW ?_ _) | refine fun k => lXa fits (oW ?_ _) | refine fun k => lXs fits (oW ?_ _) | refine fun k => lK fits (oW ?_ _) | refine fun k => lKa fits (oW ?_ _) | refine fun k => lLk fits (oW ?_ _) | refine fun k => lUp fits (oW ?_ _) | refine fun k => lDel fits (oW ?_ _) | refine fun k => lSt fits (oW ?_ _) | refine fun k => lLU fits (oW ?_ _) | refine fun k => lXw fits (oW ?_ _) | refine fun k => lLe fits (oW ?_ _) | refine fun k => lSe fits (oW ?_ _) | refine fun k => lM fits (oW ?_ _) | refine fun k => lA fits (oW ?_ _) | refine fun k => lA0 fits (oW ?_ _) | refine fun k => lA1 fits (oW ?_ _) | refine fun k => lMk fits (oW ?_ _) | refine fun k => lW fits (oW ?_ _))
    | (show ∀ k, DL _ _ _ k _ _ _ _; first | refine fun k => dC (cl) (oD ?_ _) | refine fun k => dSA fits (oD ?_ _) | refine fun k => dL fits (oD ?_ _) | refine fun k => dQ fits (oD ?_ _) | refine fun k => dX fits (oD ?_ _) | refine fun k => dXs fits (oD ?_ _) | refine fun k => dK fits (oD ?_ _) | refine fun k => dKa fits (oD ?_ _) | refine fun k => dLk fits (oD ?_ _) | refine fun k => dUp fits (oD ?_ _) | refine fun k => dA fits (oD ?_ _) | refine fun k => dA0 fits (oD ?_ _) | refine fun k => dSt fits (oD ?_ _) | refine fun k => dLU fits (oD ?_ _) | refine fun k => dXw fits (oD ?_ _) | refine fun k => dLe fits (oD ?_ _) | refine fun k => dSe fits (oD ?_ _) | refine fun k => dM fits (oD ?_ _) | refine fun k => dN fits (oD ?_ _) | refine fun k => dW fits (oD ?_ _)))
        all_goals first
          | (exfalso; have := of_decide_eq_false (by assumption : decide (j > 0) = false); omega)
          | (have hb2 : nr = n := by simpa using (by assumption : (nr == n) = true)
             rw [if_pos hb2] at h4
             exact rE (ih _ _ ⟨lk, ld⟩ hl1 hj1 hi1 hi2 h4))
          | (have hb2 : ¬ nr = n := by simpa using (by assumption : (nr == n) = false)
             rw [if_neg hb2] at h4
             exact rE (ih _ _ w hl1 hj1 hi1 hi2 h4))
end Go.Proofs.Ytceccgnpkelpkaa
