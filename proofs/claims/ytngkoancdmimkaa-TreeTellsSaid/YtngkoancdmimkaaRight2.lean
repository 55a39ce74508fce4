/- A part of a proof: functions of the program, walked over the abstract machine. -/
import Derived.Test.YtngkoancdmimkaaRight1
set_option linter.unusedVariables false
set_option linter.unusedSimpArgs false
namespace Go.Proofs.Ytngkoancdmimkaa
open Go Go.Am Go.Proofs
attribute [local irreducible] W WL DL WO RoundEnd
set_option maxRecDepth 10000
set_option maxHeartbeats 4000000
mutual
def depthF : Ex → Int
  | .mk _ _ _ _ l => depthsF l 0 + 1
def depthsF : List Ex → Int → Int
  | [], n => n
  | x :: r, n => depthsF r (max n (depthF x))
end
mutual
theorem depthF_le : ∀ e : Ex, 1 ≤ depthF e ∧ depthF e ≤ e.size
  | .mk _ _ _ _ l => by
    have := depthsF_le l 0
    rw [depthF, Ex.size]
    omega
theorem depthsF_le : ∀ (l : List Ex) (n : Int), n ≤ depthsF l n ∧ depthsF l n ≤ max n (Ex.sizes l)
  | [], n => by rw [depthsF, Ex.sizes]; omega
  | x :: r, n => by
    have h1 := depthF_le x
    have h2 := depthsF_le r (max n (depthF x))
    rw [depthsF, Ex.sizes]
    omega
end
theorem depthR : ∀ (n : Nat) (e : Ex), e.size < n → n < 2 ^ 60 → Comp Try.prog 6 [.agg (e.row.map .d)] (int .i64 (depthF e)) := by
  intro n
  induction n with
  | zero => intro e h; omega
  | succ n IH =>
  intro e hs hn
  obtain ⟨kd, o, nm, u, l⟩ := e
  have el : Ex.rows l = l.map Ex.row := Ex.rows_eq l
  simp only [Ex.row, el, List.map_cons, List.map_nil]
  rw [Ex.size] at hs
  have hlen0 : l.length ≤ Ex.sizes l := by
    clear el hs
    induction l with
    | nil => simp [Ex.sizes]
    | cons x r ih => obtain ⟨_, _, _, _, _⟩ := x; simp only [Ex.sizes, Ex.size, List.length_cons]; omega
  generalize hfb : depthF (.mk kd o nm u l) = fb
  rw [depthF] at hfb
  refine Spec.body (C := cx [] 20) fits (fn := Try.f6) Try.func6 rfl (by decide) (by decide) (gI ?_)
  repeat' (first
    | ((first | refine gC fits mixed ?_ | refine gC0 fits mixed ?_ | refine gO fits mixed ?_ | refine gR fits mixed ?_); (conv => whnf); first | (refine ⟨fun hb => ?_, fun hb => ?_⟩ <;> try first | (simp only [Bool.not_true, Bool.not_false, Bool.true_eq_false, Bool.false_eq_true, reduceCtorEq] at hb; done) | exact Bool.noConfusion (hb.symm.trans (by assumption) : true = false) | exact Bool.noConfusion (hb.symm.trans (by assumption) : false = true) | (simp only [decide_eq_true_eq, decide_eq_false_iff_not, beq_iff_eq, beq_eq_false_iff_ne, bne_iff_ne, bne_eq_false_iff_eq, ne_eq, List.length_map, List.length_cons, List.length_nil, List.length_append, Bool.not_eq_true', Bool.not_eq_false'] at hb; exfalso; omega) | (exfalso; simp [ba_beq, IntKind.wrap, IntKind.bits, IntKind.signed] at hb; done)) | (show W _ _ _ _ _) | (show ∀ k, WL _ _ _ k _ _ _) | (show ∀ k, DL _ _ _ k _ _ _ _) | (show RoundEnd _ _ _ _ _) | refine fR ?_ | (show _ ∧ Go.Am.Fin _ _ _ _ _ _))
    | (show ∀ k, WL _ _ _ k _ _ _; first | refine fun k => lSA fits (oW ?_ _) | refine fun k => lL fits (oW ?_ _) | refine fun k => lQ fits (oW ?_ _) | refine fun k => lX fits (oW ?_ _) | refine fun k => lXa fits (oW ?_ _) | refine fun k => lXs fits (oW ?_ _) | refine fun k => lK fits (oW ?_ _) | refine fun k => lKa fits (oW ?_ _) | refine fun k => lLk fits (oW ?_ _) | refine fun k => lUp fits (oW ?_ _) | refine fun k => lDel fits (oW ?_ _) | refine fun k => lSt fits (oW ?_ _) | refine fun k => lLU fits (oW ?_ _) | refine fun k => lM fits (oW ?_ _) | refine fun k => lA fits (oW ?_ _) | refine fun k => lA0 fits (oW ?_ _) | refine fun k => lA1 fits (oW ?_ _) | refine fun k => lMk fits (oW ?_ _) | refine fun k => lW fits (oW ?_ _)))
  refine wLoop [3, 7, 8, 9] 1 (l.length + 1) ?_
  refine (fun key => key l [] _ 0 rfl rfl rfl (by omega) (by omega) :
    (∀ (rest done : List Ex) (j m : Int), l = done ++ rest → j = done.length → depthsF l 0 = depthsF rest m → 0 ≤ m → m ≤ Ex.sizes l →
    WR2 _ _ _ _ _ (rest.length + 1) [(3, int .i64 m), (7, lst Ex.row l), (8, int .i64 (l.map Ex.row).length), (9, int .i64 j)] [.var [.d (.sc (.int .i64 kd)), .d (.sc (.string o)), .d (.sc (.string nm)), .d (.sc (.int .u64 u)), .d (.list (l.map Ex.row))]]) → _) ?_
  intro rest
  induction rest with
  | nil =>
    intro done j m h1 hj hr hm hm2
    have hlen : l.length = done.length := by rw [h1]; simp
    refine wR (gI ?_)
    repeat' (first
    | ((first | refine gC fits mixed ?_ | refine gC0 fits mixed ?_ | refine gO fits mixed ?_ | refine gR fits mixed ?_); (conv => whnf); first | (refine ⟨fun hb => ?_, fun hb => ?_⟩ <;> try first | (simp only [Bool.not_true, Bool.not_false, Bool.true_eq_false, Bool.false_eq_true, reduceCtorEq] at hb; done) | exact Bool.noConfusion (hb.symm.trans (by assumption) : true = false) | exact Bool.noConfusion (hb.symm.trans (by assumption) : false = true) | (simp only [decide_eq_true_eq, decide_eq_false_iff_not, beq_iff_eq, beq_eq_false_iff_ne, bne_iff_ne, bne_eq_false_iff_eq, ne_eq, List.length_map, List.length_cons, List.length_nil, List.length_append, Bool.not_eq_true', Bool.not_eq_false'] at hb; exfalso; omega) | (exfalso; simp [ba_beq, IntKind.wrap, IntKind.bits, IntKind.signed] at hb; done)) | (show W _ _ _ _ _) | (show ∀ k, WL _ _ _ k _ _ _) | (show ∀ k, DL _ _ _ k _ _ _ _) | (show RoundEnd _ _ _ _ _) | refine fR ?_ | (show _ ∧ Go.Am.Fin _ _ _ _ _ _))
    | (show ∀ k, WL _ _ _ k _ _ _; first | refine fun k => lSA fits (oW ?_ _) | refine fun k => lL fits (oW ?_ _) | refine fun k => lQ fits (oW ?_ _) | refine fun k => lX fits (oW ?_ _) | refine fun k => lXa fits (oW ?_ _) | refine fun k => lXs fits (oW ?_ _) | refine fun k => lK fits (oW ?_ _) | refine fun k => lKa fits (oW ?_ _) | refine fun k => lLk fits (oW ?_ _) | refine fun k => lUp fits (oW ?_ _) | refine fun k => lDel fits (oW ?_ _) | refine fun k => lSt fits (oW ?_ _) | refine fun k => lLU fits (oW ?_ _) | refine fun k => lM fits (oW ?_ _) | refine fun k => lA fits (oW ?_ _) | refine fun k => lA0 fits (oW ?_ _) | refine fun k => lA1 fits (oW ?_ _) | refine fun k => lMk fits (oW ?_ _) | refine fun k => lW fits (oW ?_ _)))
    exact ⟨by rw [wrap_ok (by omega) (by omega), ← hfb, hr, depthsF]; rfl, rfl⟩
  | cons x rest ih =>
    intro done j m h1 hj hr hm hm2
    have hlen : l.length = done.length + (rest.length + 1) := by rw [h1]; simp
    have hxs := Ex.size_mem (l := l) (x := x) (by rw [h1]; simp)
    have hc := IH x (by omega) (by omega)
    have hd := depthF_le x
    rw [depthsF] at hr
    obtain ⟨xk, xo, xn, xu, xl⟩ := x
    refine wR (gI ?_)
    repeat' (first
    | ((first | refine gC fits mixed ?_ | refine gC0 fits mixed ?_ | refine gO fits mixed ?_ | refine gR fits mixed ?_); (conv => whnf); first | (refine ⟨fun hb => ?_, fun hb => ?_⟩ <;> try first | (simp only [Bool.not_true, Bool.not_false, Bool.true_eq_false, Bool.false_eq_true, reduceCtorEq] at hb; done) | exact Bool.noConfusion (hb.symm.trans (by assumption) : true = false) | exact Bool.noConfusion (hb.symm.trans (by assumption) : false = true) | (simp only [decide_eq_true_eq, decide_eq_false_iff_not, beq_iff_eq, beq_eq_false_iff_ne, bne_iff_ne, bne_eq_false_iff_eq, ne_eq, List.length_map, List.length_cons, List.length_nil, List.length_append, Bool.not_eq_true', Bool.not_eq_false'] at hb; exfalso; omega) | (exfalso; simp [ba_beq, IntKind.wrap, IntKind.bits, IntKind.signed] at hb; done)) | (show W _ _ _ _ _) | (show ∀ k, WL _ _ _ k _ _ _) | (show ∀ k, DL _ _ _ k _ _ _ _) | (show RoundEnd _ _ _ _ _) | refine fR ?_ | (show _ ∧ Go.Am.Fin _ _ _ _ _ _))
    | (show ∀ k, WL _ _ _ k _ _ _; first | refine fun k => lC (hc) (oW ?_ _) | refine fun k => lSA fits (oW ?_ _) | refine fun k => lL fits (oW ?_ _) | refine fun k => lQ fits (oW ?_ _) | refine fun k => lX fits (oW ?_ _) | refine fun k => lXa fits (oW ?_ _) | refine fun k => lXs fits (oW ?_ _) | refine fun k => lK fits (oW ?_ _) | refine fun k => lKa fits (oW ?_ _) | refine fun k => lLk fits (oW ?_ _) | refine fun k => lUp fits (oW ?_ _) | refine fun k => lDel fits (oW ?_ _) | refine fun k => lSt fits (oW ?_ _) | refine fun k => lLU fits (oW ?_ _) | refine fun k => lM fits (oW ?_ _) | refine fun k => lA fits (oW ?_ _) | refine fun k => lA0 fits (oW ?_ _) | refine fun k => lA1 fits (oW ?_ _) | refine fun k => lMk fits (oW ?_ _) | refine fun k => lW fits (oW ?_ _)))
    have e : max m (depthF (Ex.mk xk xo xn xu xl)) = (if depthF (Ex.mk xk xo xn xu xl) > m then depthF (Ex.mk xk xo xn xu xl) else m) := by split <;> omega
    refine rE (ih (done ++ [Ex.mk xk xo xn xu xl]) _ _ (by rw [h1]; simp) ?_ (by rw [hr, e]) (by split <;> omega) (by split <;> omega))
    rw [wrap_ok (by omega) (by omega)]; simp [hj]
def Ex.good (e : Ex) : Prop := e.nok ∧ e.size + 1 < 2 ^ 60
def Rule.good (r : Rule) : Prop := r.call.size < 2 ^ 60 ∧ r.params.length < 2 ^ 60 ∧ (∀ s ∈ r.params, s.size < 2 ^ 60) ∧ r.cond.length < 2 ^ 60 ∧ ∀ e ∈ r.cond, e.good
def Part.good (p : Part) : Prop := p.use.size < 2 ^ 60 ∧ p.rules.length < 2 ^ 60 ∧ ∀ r ∈ p.rules, r.good
def Pol.good (p : Pol) : Prop := p.name.size < 2 ^ 60 ∧ p.parts.length < 2 ^ 60 ∧ ∀ x ∈ p.parts, x.good
def Def.good (d : Def) : Prop := d.name.size < 2 ^ 60 ∧ d.expr.good
def Un.good (u : Un) : Prop := u.defs.length < 2 ^ 60 ∧ (∀ d ∈ u.defs, d.good) ∧ u.pols.length < 2 ^ 60 ∧ (∀ p ∈ u.pols, p.good) ∧ u.main.length < 2 ^ 60 ∧ ∀ s ∈ u.main, s.size < 2 ^ 60
def condF (e : Ex) : Bool := boolF (e.size + 1) e && decide (depthF e ≤ 30)
def ruleF (r : Rule) : Bool := nameF r.call && (r.params.all nameF && (decide (r.cond.length ≤ 1) && r.cond.all condF))
def partRF (p : Part) : Bool := if p.use = ⟨#[]⟩ then (valF p.act).2 && p.rules.all ruleF else nameF p.use && ((p.act.kind == 0 && (p.act.data == 0 && true)) && (((p.rules.map Rule.row).length : Int) == 0))
def polRF (p : Pol) : Bool := nameF p.name && p.parts.all partRF
def defF (d : Def) : Bool := nameF d.name && numF (d.expr.size + 1) d.expr
def rightF (u : Un) : Bool := u.defs.all defF && (u.pols.all polRF && (decide (((u.main.map strow).length : Int) > 0) && (u.main.all nameF && (valF u.dflt).2)))
theorem actionR (a : Act) : Comp Try.prog 30 [.agg (a.row.map .d)] (bool (valF a).2) := by
  have c1 := valueR a
  obtain ⟨kd, d⟩ := a
  refine Spec.body (C := cx [] 11) fits (fn := Try.f30) Try.func30 rfl (by decide) (by decide) (gI ?_)
  repeat' (first
    | ((first | refine gC fits mixed ?_ | refine gC0 fits mixed ?_ | refine gO fits mixed ?_ | refine gR fits mixed ?_); (conv => whnf); first | (refine ⟨fun hb => ?_, fun hb => ?_⟩ <;> try first | (simp only [Bool.not_true, Bool.not_false, Bool.true_eq_false, Bool.false_eq_true, reduceCtorEq] at hb; done) | exact Bool.noConfusion (hb.symm.trans (by assumption) : true = false) | exact Bool.noConfusion (hb.symm.trans (by assumption) : false = true) | (simp only [decide_eq_true_eq, decide_eq_false_iff_not, beq_iff_eq, beq_eq_false_iff_ne, bne_iff_ne, bne_eq_false_iff_eq, ne_eq, List.length_map, List.length_cons, List.length_nil, List.length_append, Bool.not_eq_true', Bool.not_eq_false'] at hb; exfalso; omega) | (exfalso; simp [ba_beq, IntKind.wrap, IntKind.bits, IntKind.signed] at hb; done)) | (show W _ _ _ _ _) | (show ∀ k, WL _ _ _ k _ _ _) | (show ∀ k, DL _ _ _ k _ _ _ _) | (show RoundEnd _ _ _ _ _) | refine fR ?_ | (show _ ∧ Go.Am.Fin _ _ _ _ _ _))
    | (show ∀ k, WL _ _ _ k _ _ _; first | refine fun k => lC (c1) (oW ?_ _) | refine fun k => lSA fits (oW ?_ _) | refine fun k => lL fits (oW ?_ _) | refine fun k => lQ fits (oW ?_ _) | refine fun k => lX fits (oW ?_ _) | refine fun k => lXa fits (oW ?_ _) | refine fun k => lXs fits (oW ?_ _) | refine fun k => lK fits (oW ?_ _) | refine fun k => lKa fits (oW ?_ _) | refine fun k => lLk fits (oW ?_ _) | refine fun k => lUp fits (oW ?_ _) | refine fun k => lDel fits (oW ?_ _) | refine fun k => lSt fits (oW ?_ _) | refine fun k => lLU fits (oW ?_ _) | refine fun k => lM fits (oW ?_ _) | refine fun k => lA fits (oW ?_ _) | refine fun k => lA0 fits (oW ?_ _) | refine fun k => lA1 fits (oW ?_ _) | refine fun k => lMk fits (oW ?_ _) | refine fun k => lW fits (oW ?_ _)))
  all_goals first | exact ⟨by rw [show (valF ⟨kd, d⟩).2 = true by assumption]; rfl, rfl⟩ | exact ⟨by rw [show (valF ⟨kd, d⟩).2 = false by assumption]; rfl, rfl⟩
theorem condR (e : Ex) (h : e.good) : Comp Try.prog 78 [.agg (e.row.map .d)] (bool (condF e)) := by
  have c1 := boolR (e.size + 1) e (Nat.lt_succ_self _) h.1
  have c2 := depthR (e.size + 1) e (Nat.lt_succ_self _) h.2
  unfold condF
  obtain ⟨kd, o, nm, u, l⟩ := e
  refine Spec.body (C := cx [] 10) fits (fn := Try.f78) Try.func78 rfl (by decide) (by decide) (gI ?_)
  repeat' (first
    | ((first | refine gC fits mixed ?_ | refine gC0 fits mixed ?_ | refine gO fits mixed ?_ | refine gR fits mixed ?_); (conv => whnf); first | (refine ⟨fun hb => ?_, fun hb => ?_⟩ <;> try first | (simp only [Bool.not_true, Bool.not_false, Bool.true_eq_false, Bool.false_eq_true, reduceCtorEq] at hb; done) | exact Bool.noConfusion (hb.symm.trans (by assumption) : true = false) | exact Bool.noConfusion (hb.symm.trans (by assumption) : false = true) | (simp only [decide_eq_true_eq, decide_eq_false_iff_not, beq_iff_eq, beq_eq_false_iff_ne, bne_iff_ne, bne_eq_false_iff_eq, ne_eq, List.length_map, List.length_cons, List.length_nil, List.length_append, Bool.not_eq_true', Bool.not_eq_false'] at hb; exfalso; omega) | (exfalso; simp [ba_beq, IntKind.wrap, IntKind.bits, IntKind.signed] at hb; done)) | (show W _ _ _ _ _) | (show ∀ k, WL _ _ _ k _ _ _) | (show ∀ k, DL _ _ _ k _ _ _ _) | (show RoundEnd _ _ _ _ _) | refine fR ?_ | (show _ ∧ Go.Am.Fin _ _ _ _ _ _))
    | (show ∀ k, WL _ _ _ k _ _ _; first | (refine fun k => lCB (c1) (fun h1 => oW ?_ _) (fun h1 => oW ?_ _)) | refine fun k => lC (c2) (oW ?_ _) | refine fun k => lSA fits (oW ?_ _) | refine fun k => lL fits (oW ?_ _) | refine fun k => lQ fits (oW ?_ _) | refine fun k => lX fits (oW ?_ _) | refine fun k => lXa fits (oW ?_ _) | refine fun k => lXs fits (oW ?_ _) | refine fun k => lK fits (oW ?_ _) | refine fun k => lKa fits (oW ?_ _) | refine fun k => lLk fits (oW ?_ _) | refine fun k => lUp fits (oW ?_ _) | refine fun k => lDel fits (oW ?_ _) | refine fun k => lSt fits (oW ?_ _) | refine fun k => lLU fits (oW ?_ _) | refine fun k => lM fits (oW ?_ _) | refine fun k => lA fits (oW ?_ _) | refine fun k => lA0 fits (oW ?_ _) | refine fun k => lA1 fits (oW ?_ _) | refine fun k => lMk fits (oW ?_ _) | refine fun k => lW fits (oW ?_ _)))
  · exact ⟨by rw [h1, hb]; rfl, rfl⟩
  · exact ⟨by rw [h1, hb]; rfl, rfl⟩
  · exact ⟨by rw [h1]; rfl, rfl⟩
theorem ruleR (r : Rule) (h : r.good) : Comp Try.prog 62 [.agg (r.row.map .d)] (bool (ruleF r)) := by
  have c1 := nameR r.call h.1
  have c2 := allStr 11 nameF r.params h.2.1 (fun s hs => nameR s (h.2.2.1 s hs))
  have c3 := allExpr 78 condF r.cond h.2.2.2.1 (fun e he => condR e (h.2.2.2.2 e he))
  unfold ruleF
  obtain ⟨rc, rp, rq⟩ := r
  refine Spec.body (C := cx [] 22) fits (fn := Try.f62) Try.func62 rfl (by decide) (by decide) (gI ?_)
  repeat' (first
    | ((first | refine gC fits mixed ?_ | refine gC0 fits mixed ?_ | refine gO fits mixed ?_ | refine gR fits mixed ?_); (conv => whnf); first | (refine ⟨fun hb => ?_, fun hb => ?_⟩ <;> try first | (simp only [Bool.not_true, Bool.not_false, Bool.true_eq_false, Bool.false_eq_true, reduceCtorEq] at hb; done) | exact Bool.noConfusion (hb.symm.trans (by assumption) : true = false) | exact Bool.noConfusion (hb.symm.trans (by assumption) : false = true) | (simp only [decide_eq_true_eq, decide_eq_false_iff_not, beq_iff_eq, beq_eq_false_iff_ne, bne_iff_ne, bne_eq_false_iff_eq, ne_eq, List.length_map, List.length_cons, List.length_nil, List.length_append, Bool.not_eq_true', Bool.not_eq_false'] at hb; exfalso; omega) | (exfalso; simp [ba_beq, IntKind.wrap, IntKind.bits, IntKind.signed] at hb; done)) | (show W _ _ _ _ _) | (show ∀ k, WL _ _ _ k _ _ _) | (show ∀ k, DL _ _ _ k _ _ _ _) | (show RoundEnd _ _ _ _ _) | refine fR ?_ | (show _ ∧ Go.Am.Fin _ _ _ _ _ _))
    | (show ∀ k, WL _ _ _ k _ _ _; first | (refine fun k => lCB (c1) (fun h1 => oW ?_ _) (fun h1 => oW ?_ _)) | (refine fun k => lCB (c2) (fun h2 => oW ?_ _) (fun h2 => oW ?_ _)) | refine fun k => lC (c3) (oW ?_ _) | refine fun k => lSA fits (oW ?_ _) | refine fun k => lL fits (oW ?_ _) | refine fun k => lQ fits (oW ?_ _) | refine fun k => lX fits (oW ?_ _) | refine fun k => lXa fits (oW ?_ _) | refine fun k => lXs fits (oW ?_ _) | refine fun k => lK fits (oW ?_ _) | refine fun k => lKa fits (oW ?_ _) | refine fun k => lLk fits (oW ?_ _) | refine fun k => lUp fits (oW ?_ _) | refine fun k => lDel fits (oW ?_ _) | refine fun k => lSt fits (oW ?_ _) | refine fun k => lLU fits (oW ?_ _) | refine fun k => lM fits (oW ?_ _) | refine fun k => lA fits (oW ?_ _) | refine fun k => lA0 fits (oW ?_ _) | refine fun k => lA1 fits (oW ?_ _) | refine fun k => lMk fits (oW ?_ _) | refine fun k => lW fits (oW ?_ _)))
  · have hq : ¬ rq.length ≤ 1 := by simp at hb; omega
    exact ⟨by simp only [h1, h2, decide_eq_false hq]; rfl, rfl⟩
  · have hq : rq.length ≤ 1 := by simp at hb; omega
    exact ⟨by simp only [h1, h2, decide_eq_true hq, Bool.true_and]; rfl, rfl⟩
  · exact ⟨by simp only [h1, h2]; rfl, rfl⟩
  · exact ⟨by simp only [h1]; rfl, rfl⟩
theorem partRR (p : Part) (h : p.good) : Comp Try.prog 28 [.agg (p.row.map .d)] (bool (partRF p)) := by
  have c1 := nameR p.use h.1
  have c2 := allRule 62 ruleF p.rules h.2.1 (fun r hr => ruleR r (h.2.2 r hr))
  have c3 := actionR p.act
  unfold partRF
  obtain ⟨xu, ⟨xk, xd⟩, xr⟩ := p
  by_cases he : xu = ⟨#[]⟩
  · have be : (!(xu == (⟨#[]⟩ : ByteArray))) = false := by simp [ba_beq, he]
    rw [if_pos he]
    refine Spec.body (C := cx [] 29) fits (fn := Try.f28) Try.func28 rfl (by decide) (by decide) (gI ?_)
    repeat' (first
    | ((first | refine gC fits mixed ?_ | refine gC0 fits mixed ?_ | refine gO fits mixed ?_ | refine gR fits mixed ?_); (conv => whnf); first | (refine ⟨fun hb => ?_, fun hb => ?_⟩ <;> try first | (simp only [Bool.not_true, Bool.not_false, Bool.true_eq_false, Bool.false_eq_true, reduceCtorEq] at hb; done) | exact Bool.noConfusion (hb.symm.trans (by assumption) : true = false) | exact Bool.noConfusion (hb.symm.trans (by assumption) : false = true) | (simp only [decide_eq_true_eq, decide_eq_false_iff_not, beq_iff_eq, beq_eq_false_iff_ne, bne_iff_ne, bne_eq_false_iff_eq, ne_eq, List.length_map, List.length_cons, List.length_nil, List.length_append, Bool.not_eq_true', Bool.not_eq_false'] at hb; exfalso; omega) | (exfalso; simp [ba_beq, IntKind.wrap, IntKind.bits, IntKind.signed] at hb; done)) | (show W _ _ _ _ _) | (show ∀ k, WL _ _ _ k _ _ _) | (show ∀ k, DL _ _ _ k _ _ _ _) | (show RoundEnd _ _ _ _ _) | refine fR ?_ | (show _ ∧ Go.Am.Fin _ _ _ _ _ _))
    | (show ∀ k, WL _ _ _ k _ _ _; first | (refine fun k => lCB (c3) (fun h3 => oW ?_ _) (fun h3 => oW ?_ _)) | refine fun k => lC (c2) (oW ?_ _) | refine fun k => lSA fits (oW ?_ _) | refine fun k => lL fits (oW ?_ _) | refine fun k => lQ fits (oW ?_ _) | refine fun k => lX fits (oW ?_ _) | refine fun k => lXa fits (oW ?_ _) | refine fun k => lXs fits (oW ?_ _) | refine fun k => lK fits (oW ?_ _) | refine fun k => lKa fits (oW ?_ _) | refine fun k => lLk fits (oW ?_ _) | refine fun k => lUp fits (oW ?_ _) | refine fun k => lDel fits (oW ?_ _) | refine fun k => lSt fits (oW ?_ _) | refine fun k => lLU fits (oW ?_ _) | refine fun k => lM fits (oW ?_ _) | refine fun k => lA fits (oW ?_ _) | refine fun k => lA0 fits (oW ?_ _) | refine fun k => lA1 fits (oW ?_ _) | refine fun k => lMk fits (oW ?_ _) | refine fun k => lW fits (oW ?_ _)))
    all_goals first | exact ⟨by simp only [h3]; rfl, rfl⟩
  · have be : (!(xu == (⟨#[]⟩ : ByteArray))) = true := by simp [ba_beq, he]
    rw [if_neg he]
    refine Spec.body (C := cx [] 29) fits (fn := Try.f28) Try.func28 rfl (by decide) (by decide) (gI ?_)
    repeat' (first
    | ((first | refine gC fits mixed ?_ | refine gC0 fits mixed ?_ | refine gO fits mixed ?_ | refine gR fits mixed ?_); (conv => whnf); first | (refine ⟨fun hb => ?_, fun hb => ?_⟩ <;> try first | (simp only [Bool.not_true, Bool.not_false, Bool.true_eq_false, Bool.false_eq_true, reduceCtorEq] at hb; done) | exact Bool.noConfusion (hb.symm.trans (by assumption) : true = false) | exact Bool.noConfusion (hb.symm.trans (by assumption) : false = true) | (simp only [decide_eq_true_eq, decide_eq_false_iff_not, beq_iff_eq, beq_eq_false_iff_ne, bne_iff_ne, bne_eq_false_iff_eq, ne_eq, List.length_map, List.length_cons, List.length_nil, List.length_append, Bool.not_eq_true', Bool.not_eq_false'] at hb; exfalso; omega) | (exfalso; simp [ba_beq, IntKind.wrap, IntKind.bits, IntKind.signed] at hb; done)) | (show W _ _ _ _ _) | (show ∀ k, WL _ _ _ k _ _ _) | (show ∀ k, DL _ _ _ k _ _ _ _) | (show RoundEnd _ _ _ _ _) | refine fR ?_ | (show _ ∧ Go.Am.Fin _ _ _ _ _ _))
    | (show ∀ k, WL _ _ _ k _ _ _; first | (refine fun k => lCB (c1) (fun h1 => oW ?_ _) (fun h1 => oW ?_ _)) | refine fun k => lSA fits (oW ?_ _) | refine fun k => lL fits (oW ?_ _) | refine fun k => lQ fits (oW ?_ _) | refine fun k => lX fits (oW ?_ _) | refine fun k => lXa fits (oW ?_ _) | refine fun k => lXs fits (oW ?_ _) | refine fun k => lK fits (oW ?_ _) | refine fun k => lKa fits (oW ?_ _) | refine fun k => lLk fits (oW ?_ _) | refine fun k => lUp fits (oW ?_ _) | refine fun k => lDel fits (oW ?_ _) | refine fun k => lSt fits (oW ?_ _) | refine fun k => lLU fits (oW ?_ _) | refine fun k => lM fits (oW ?_ _) | refine fun k => lA fits (oW ?_ _) | refine fun k => lA0 fits (oW ?_ _) | refine fun k => lA1 fits (oW ?_ _) | refine fun k => lMk fits (oW ?_ _) | refine fun k => lW fits (oW ?_ _)))
    all_goals first
      | exact ⟨by rw [show nameF xu = true from h1, show (xk == 0 && (xd == 0 && true)) = true by assumption, show (((xr.map Rule.row).length : Int) == 0) = true by assumption]; rfl, rfl⟩
      | exact ⟨by rw [show nameF xu = true from h1, show (xk == 0 && (xd == 0 && true)) = true by assumption, show (((xr.map Rule.row).length : Int) == 0) = false by assumption]; rfl, rfl⟩
      | exact ⟨by rw [show nameF xu = true from h1, show (xk == 0 && (xd == 0 && true)) = false by assumption]; rfl, rfl⟩
      | exact ⟨by rw [show nameF xu = false from h1]; rfl, rfl⟩
theorem polRR (p : Pol) (h : p.good) : Comp Try.prog 26 [.agg (p.row.map .d)] (bool (polRF p)) := by
  have c1 := nameR p.name h.1
  have c2 := allPart 28 partRF p.parts h.2.1 (fun r hr => partRR r (h.2.2 r hr))
  unfold polRF
  obtain ⟨pn, pp⟩ := p
  refine Spec.body (C := cx [] 11) fits (fn := Try.f26) Try.func26 rfl (by decide) (by decide) (gI ?_)
  repeat' (first
    | ((first | refine gC fits mixed ?_ | refine gC0 fits mixed ?_ | refine gO fits mixed ?_ | refine gR fits mixed ?_); (conv => whnf); first | (refine ⟨fun hb => ?_, fun hb => ?_⟩ <;> try first | (simp only [Bool.not_true, Bool.not_false, Bool.true_eq_false, Bool.false_eq_true, reduceCtorEq] at hb; done) | exact Bool.noConfusion (hb.symm.trans (by assumption) : true = false) | exact Bool.noConfusion (hb.symm.trans (by assumption) : false = true) | (simp only [decide_eq_true_eq, decide_eq_false_iff_not, beq_iff_eq, beq_eq_false_iff_ne, bne_iff_ne, bne_eq_false_iff_eq, ne_eq, List.length_map, List.length_cons, List.length_nil, List.length_append, Bool.not_eq_true', Bool.not_eq_false'] at hb; exfalso; omega) | (exfalso; simp [ba_beq, IntKind.wrap, IntKind.bits, IntKind.signed] at hb; done)) | (show W _ _ _ _ _) | (show ∀ k, WL _ _ _ k _ _ _) | (show ∀ k, DL _ _ _ k _ _ _ _) | (show RoundEnd _ _ _ _ _) | refine fR ?_ | (show _ ∧ Go.Am.Fin _ _ _ _ _ _))
    | (show ∀ k, WL _ _ _ k _ _ _; first | (refine fun k => lCB (c1) (fun h1 => oW ?_ _) (fun h1 => oW ?_ _)) | (refine fun k => lCB (c2) (fun h2 => oW ?_ _) (fun h2 => oW ?_ _)) | refine fun k => lSA fits (oW ?_ _) | refine fun k => lL fits (oW ?_ _) | refine fun k => lQ fits (oW ?_ _) | refine fun k => lX fits (oW ?_ _) | refine fun k => lXa fits (oW ?_ _) | refine fun k => lXs fits (oW ?_ _) | refine fun k => lK fits (oW ?_ _) | refine fun k => lKa fits (oW ?_ _) | refine fun k => lLk fits (oW ?_ _) | refine fun k => lUp fits (oW ?_ _) | refine fun k => lDel fits (oW ?_ _) | refine fun k => lSt fits (oW ?_ _) | refine fun k => lLU fits (oW ?_ _) | refine fun k => lM fits (oW ?_ _) | refine fun k => lA fits (oW ?_ _) | refine fun k => lA0 fits (oW ?_ _) | refine fun k => lA1 fits (oW ?_ _) | refine fun k => lMk fits (oW ?_ _) | refine fun k => lW fits (oW ?_ _)))
  all_goals first | exact ⟨by simp only [h1, h2]; rfl, rfl⟩ | exact ⟨by simp only [h1]; rfl, rfl⟩
theorem defR (d : Def) (h : d.good) : Comp Try.prog 24 [.agg (d.row.map .d)] (bool (defF d)) := by
  have c1 := nameR d.name h.1
  have c2 := numberR (d.expr.size + 1) d.expr (Nat.lt_succ_self _) h.2.1
  unfold defF
  obtain ⟨xn, ⟨xk, xo, xm, xu, xl⟩⟩ := d
  refine Spec.body (C := cx [] 11) fits (fn := Try.f24) Try.func24 rfl (by decide) (by decide) (gI ?_)
  repeat' (first
    | ((first | refine gC fits mixed ?_ | refine gC0 fits mixed ?_ | refine gO fits mixed ?_ | refine gR fits mixed ?_); (conv => whnf); first | (refine ⟨fun hb => ?_, fun hb => ?_⟩ <;> try first | (simp only [Bool.not_true, Bool.not_false, Bool.true_eq_false, Bool.false_eq_true, reduceCtorEq] at hb; done) | exact Bool.noConfusion (hb.symm.trans (by assumption) : true = false) | exact Bool.noConfusion (hb.symm.trans (by assumption) : false = true) | (simp only [decide_eq_true_eq, decide_eq_false_iff_not, beq_iff_eq, beq_eq_false_iff_ne, bne_iff_ne, bne_eq_false_iff_eq, ne_eq, List.length_map, List.length_cons, List.length_nil, List.length_append, Bool.not_eq_true', Bool.not_eq_false'] at hb; exfalso; omega) | (exfalso; simp [ba_beq, IntKind.wrap, IntKind.bits, IntKind.signed] at hb; done)) | (show W _ _ _ _ _) | (show ∀ k, WL _ _ _ k _ _ _) | (show ∀ k, DL _ _ _ k _ _ _ _) | (show RoundEnd _ _ _ _ _) | refine fR ?_ | (show _ ∧ Go.Am.Fin _ _ _ _ _ _))
    | (show ∀ k, WL _ _ _ k _ _ _; first | (refine fun k => lCB (c1) (fun h1 => oW ?_ _) (fun h1 => oW ?_ _)) | (refine fun k => lCB (c2) (fun h2 => oW ?_ _) (fun h2 => oW ?_ _)) | refine fun k => lSA fits (oW ?_ _) | refine fun k => lL fits (oW ?_ _) | refine fun k => lQ fits (oW ?_ _) | refine fun k => lX fits (oW ?_ _) | refine fun k => lXa fits (oW ?_ _) | refine fun k => lXs fits (oW ?_ _) | refine fun k => lK fits (oW ?_ _) | refine fun k => lKa fits (oW ?_ _) | refine fun k => lLk fits (oW ?_ _) | refine fun k => lUp fits (oW ?_ _) | refine fun k => lDel fits (oW ?_ _) | refine fun k => lSt fits (oW ?_ _) | refine fun k => lLU fits (oW ?_ _) | refine fun k => lM fits (oW ?_ _) | refine fun k => lA fits (oW ?_ _) | refine fun k => lA0 fits (oW ?_ _) | refine fun k => lA1 fits (oW ?_ _) | refine fun k => lMk fits (oW ?_ _) | refine fun k => lW fits (oW ?_ _)))
  all_goals first | exact ⟨by simp only [h1, h2]; rfl, rfl⟩ | exact ⟨by simp only [h1]; rfl, rfl⟩
theorem rightR (u : Un) (h : u.good) : Comp Try.prog 8 [.agg u.cells] (bool (rightF u)) := by
  have c1 := allDefine 24 defF u.defs h.1 (fun r hr => defR r (h.2.1 r hr))
  have c2 := allPolicy 26 polRF u.pols h.2.2.1 (fun r hr => polRR r (h.2.2.2.1 r hr))
  have c3 := allStr 11 nameF u.main h.2.2.2.2.1 (fun s hs => nameR s (h.2.2.2.2.2 s hs))
  have c4 := actionR u.dflt
  unfold rightF
  obtain ⟨ds, ps, ms, ⟨dk, dd⟩⟩ := u
  refine Spec.body (C := cx [] 27) fits (fn := Try.f8) Try.func8 rfl (by decide) (by decide) (gI ?_)
  repeat' (first
    | ((first | refine gC fits mixed ?_ | refine gC0 fits mixed ?_ | refine gO fits mixed ?_ | refine gR fits mixed ?_); (conv => whnf); first | (refine ⟨fun hb => ?_, fun hb => ?_⟩ <;> try first | (simp only [Bool.not_true, Bool.not_false, Bool.true_eq_false, Bool.false_eq_true, reduceCtorEq] at hb; done) | exact Bool.noConfusion (hb.symm.trans (by assumption) : true = false) | exact Bool.noConfusion (hb.symm.trans (by assumption) : false = true) | (simp only [decide_eq_true_eq, decide_eq_false_iff_not, beq_iff_eq, beq_eq_false_iff_ne, bne_iff_ne, bne_eq_false_iff_eq, ne_eq, List.length_map, List.length_cons, List.length_nil, List.length_append, Bool.not_eq_true', Bool.not_eq_false'] at hb; exfalso; omega) | (exfalso; simp [ba_beq, IntKind.wrap, IntKind.bits, IntKind.signed] at hb; done)) | (show W _ _ _ _ _) | (show ∀ k, WL _ _ _ k _ _ _) | (show ∀ k, DL _ _ _ k _ _ _ _) | (show RoundEnd _ _ _ _ _) | refine fR ?_ | (show _ ∧ Go.Am.Fin _ _ _ _ _ _))
    | (show ∀ k, WL _ _ _ k _ _ _; first | (refine fun k => lCB (c1) (fun h1 => oW ?_ _) (fun h1 => oW ?_ _)) | (refine fun k => lCB (c2) (fun h2 => oW ?_ _) (fun h2 => oW ?_ _)) | (refine fun k => lCB (c3) (fun h3 => oW ?_ _) (fun h3 => oW ?_ _)) | (refine fun k => lCB (c4) (fun h4 => oW ?_ _) (fun h4 => oW ?_ _)) | refine fun k => lSA fits (oW ?_ _) | refine fun k => lL fits (oW ?_ _) | refine fun k => lQ fits (oW ?_ _) | refine fun k => lX fits (oW ?_ _) | refine fun k => lXa fits (oW ?_ _) | refine fun k => lXs fits (oW ?_ _) | refine fun k => lK fits (oW ?_ _) | refine fun k => lKa fits (oW ?_ _) | refine fun k => lLk fits (oW ?_ _) | refine fun k => lUp fits (oW ?_ _) | refine fun k => lDel fits (oW ?_ _) | refine fun k => lSt fits (oW ?_ _) | refine fun k => lLU fits (oW ?_ _) | refine fun k => lM fits (oW ?_ _) | refine fun k => lA fits (oW ?_ _) | refine fun k => lA0 fits (oW ?_ _) | refine fun k => lA1 fits (oW ?_ _) | refine fun k => lMk fits (oW ?_ _) | refine fun k => lW fits (oW ?_ _)))
  all_goals first
    | exact ⟨by simp only [h1]; rfl, rfl⟩
    | exact ⟨by simp only [h1, h2]; rfl, rfl⟩
    | (have hm : decide (((ms.map strow).length : Int) > 0) = false := (by assumption); exact ⟨by simp only [h1, h2, hm]; rfl, rfl⟩)
    | (have hm : decide (((ms.map strow).length : Int) > 0) = true := (by assumption); exact ⟨by simp only [h1, h2, h3, hm]; rfl, rfl⟩)
    | (have hm : decide (((ms.map strow).length : Int) > 0) = true := (by assumption); exact ⟨by simp only [h1, h2, h3, h4, hm]; rfl, rfl⟩)
end Go.Proofs.Ytngkoancdmimkaa
