/- A part of a proof: functions of the program walked over the abstract machine, and what they compute. -/
import Derived.Test.YtjjhckmnnaafkaaDoorPWAp
import Derived.Test.YtjjhckmnnaafkaaDoorPWAn
import Derived.Test.YtjjhckmnnaafkaaDoorPWAo
set_option linter.unusedVariables false
set_option linter.unusedSimpArgs false
namespace Go.Proofs.YtjjhckmnnaafkaaDoor
open Go Go.Am Go.Proofs
attribute [local irreducible] W WL DL WO RoundEnd
set_option maxRecDepth 10000
set_option maxHeartbeats 4000000
mutual
def depthF : Ex → Int
  | .mk _ _ _ _ l => depthsF l 0 + 1
def depthsF : List Ex → Int → Int
  | [], n => n
  | x :: r, n => depthsF r (max n (depthF x))
end
mutual
theorem depthF_le : ∀ e : Ex, 1 ≤ depthF e ∧ depthF e ≤ e.size
  | .mk _ _ _ _ l => by
    have := depthsF_le l 0
    rw [depthF, Ex.size]
    omega
theorem depthsF_le : ∀ (l : List Ex) (n : Int), n ≤ depthsF l n ∧ depthsF l n ≤ max n (Ex.sizes l)
  | [], n => by rw [depthsF, Ex.sizes]; omega
  | x :: r, n => by
    have h1 := depthF_le x
    have h2 := depthsF_le r (max n (depthF x))
    rw [depthsF, Ex.sizes]
    omega
end
theorem depthR : ∀ (n : Nat) (e : Ex), e.size < n → n < 2 ^ 60 → Comp Tryd.prog 75 [.agg (e.row.map .d)] (int .i64 (depthF e)) := by
  intro n
  induction n with
  | zero => intro e h; omega
  | succ n IH =>
  intro e hs hn
  obtain ⟨kd, o, nm, u, l⟩ := e
  have el : Ex.rows l = l.map Ex.row := Ex.rows_eq l
  simp only [Ex.row, el, List.map_cons, List.map_nil]
  rw [Ex.size] at hs
  have hlen0 : l.length ≤ Ex.sizes l := by
    clear el hs
    induction l with
    | nil => simp [Ex.sizes]
    | cons x r ih => obtain ⟨_, _, _, _, _⟩ := x; simp only [Ex.sizes, Ex.size, List.length_cons]; omega
  generalize hfb : depthF (.mk kd o nm u l) = fb
  rw [depthF] at hfb
  refine Spec.body (C := cx [] 20) fits (fn := Tryd.f75) Tryd.func75 rfl (by decide) (by decide) (gI ?_)
  refine ST wz ?_ <;> (repeat' (first | exact Wl.mk | refine wy1 ?_ ?_)) <;> repeat (intro hb; have hx := wy5 hb; clear hx)
  refine wLoop [3, 7, 8, 9] 1 (l.length + 1) ?_
  refine (fun key => key l [] _ 0 rfl rfl rfl (by omega) (by omega) :
    (∀ (rest done : List Ex) (j m : Int), l = done ++ rest → j = done.length → depthsF l 0 = depthsF rest m → 0 ≤ m → m ≤ Ex.sizes l →
    WR2 _ _ _ _ _ (rest.length + 1) [(3, int .i64 m), (7, lst Ex.row l), (8, int .i64 (l.map Ex.row).length), (9, int .i64 j)] [.var [.d (.sc (.int .i64 kd)), .d (.sc (.string o)), .d (.sc (.string nm)), .d (.sc (.int .u64 u)), .d (.list (l.map Ex.row))]]) → _) ?_
  intro rest
  induction rest with
  | nil =>
    intro done j m h1 hj hr hm hm2
    have hlen : l.length = done.length := by rw [h1]; simp
    refine wR (gI ?_)
    refine ST wz ?_ <;> (repeat' (first | exact Wl.mk | refine wy1 ?_ ?_)) <;> repeat (intro hb; have hx := wy5 hb; clear hx)
    exact ⟨by rw [wrap_ok (by omega) (by omega), ← hfb, hr, depthsF]; rfl, rfl⟩
  | cons x rest ih =>
    intro done j m h1 hj hr hm hm2
    have hlen : l.length = done.length + (rest.length + 1) := by rw [h1]; simp
    have hxs := Ex.size_mem (l := l) (x := x) (by rw [h1]; simp)
    have hc := IH x (by omega) (by omega)
    have hd := depthF_le x
    rw [depthsF] at hr
    obtain ⟨xk, xo, xn, xu, xl⟩ := x
    refine wR (gI ?_)
    refine ST (wc hc wz) ?_ <;> (repeat' (first | exact Wl.mk | refine wy1 ?_ ?_)) <;> repeat (intro hb; have hx := wy5 hb; clear hx)
    have e : max m (depthF (Ex.mk xk xo xn xu xl)) = (if depthF (Ex.mk xk xo xn xu xl) > m then depthF (Ex.mk xk xo xn xu xl) else m) := by split <;> omega
    refine rE (ih (done ++ [Ex.mk xk xo xn xu xl]) _ _ (by rw [h1]; simp) ?_ (by rw [hr, e]) (by split <;> omega) (by split <;> omega))
    rw [wrap_ok (by omega) (by omega)]; simp [hj]
def Ex.good (e : Ex) : Prop := e.nok ∧ e.size + 1 < 2 ^ 60
def Rule.good (r : Rule) : Prop := r.call.size < 2 ^ 60 ∧ r.params.length < 2 ^ 60 ∧ (∀ s ∈ r.params, s.size < 2 ^ 60) ∧ r.cond.length < 2 ^ 60 ∧ ∀ e ∈ r.cond, e.good
def Part.good (p : Part) : Prop := p.use.size < 2 ^ 60 ∧ p.rules.length < 2 ^ 60 ∧ ∀ r ∈ p.rules, r.good
def Pol.good (p : Pol) : Prop := p.name.size < 2 ^ 60 ∧ p.parts.length < 2 ^ 60 ∧ ∀ x ∈ p.parts, x.good
def Def.good (d : Def) : Prop := d.name.size < 2 ^ 60 ∧ d.expr.good
def Un.good (u : Un) : Prop := u.defs.length < 2 ^ 60 ∧ (∀ d ∈ u.defs, d.good) ∧ u.pols.length < 2 ^ 60 ∧ (∀ p ∈ u.pols, p.good) ∧ u.main.length < 2 ^ 60 ∧ ∀ s ∈ u.main, s.size < 2 ^ 60
def condF (e : Ex) : Bool := boolF (e.size + 1) e && decide (depthF e ≤ 30)
def ruleF (r : Rule) : Bool := nameF r.call && (r.params.all nameF && (decide (r.cond.length ≤ 1) && r.cond.all condF))
def partRF (p : Part) : Bool := if p.use = ⟨#[]⟩ then (valF p.act).2 && p.rules.all ruleF else nameF p.use && ((p.act.kind == 0 && (p.act.data == 0 && true)) && (((p.rules.map Rule.row).length : Int) == 0))
def polRF (p : Pol) : Bool := nameF p.name && p.parts.all partRF
def defF (d : Def) : Bool := nameF d.name && numF (d.expr.size + 1) d.expr
def rightF (u : Un) : Bool := u.defs.all defF && (u.pols.all polRF && (decide (((u.main.map strow).length : Int) > 0) && (u.main.all nameF && (valF u.dflt).2)))
theorem actionR (a : Act) : Comp Tryd.prog 31 [.agg (a.row.map .d)] (bool (valF a).2) := by
  have c1 := valueR a
  obtain ⟨kd, d⟩ := a
  refine Spec.body (C := cx [] 11) fits (fn := Tryd.f31) Tryd.func31 rfl (by decide) (by decide) (gI ?_)
  refine ST (wc c1 wz) ?_ <;> (repeat' (first | exact Wl.mk | refine wy1 ?_ ?_)) <;> repeat (intro hb; have hx := wy5 hb; clear hx)
  all_goals first | exact ⟨by rw [show (valF ⟨kd, d⟩).2 = true by assumption]; rfl, rfl⟩ | exact ⟨by rw [show (valF ⟨kd, d⟩).2 = false by assumption]; rfl, rfl⟩
theorem condR (e : Ex) (h : e.good) : Comp Tryd.prog 73 [.agg (e.row.map .d)] (bool (condF e)) := by
  have c1 := boolR (e.size + 1) e (Nat.lt_succ_self _) h.1
  have c2 := depthR (e.size + 1) e (Nat.lt_succ_self _) h.2
  unfold condF
  obtain ⟨kd, o, nm, u, l⟩ := e
  refine Spec.body (C := cx [] 10) fits (fn := Tryd.f73) Tryd.func73 rfl (by decide) (by decide) (gI ?_)
  repeat' (first | ((first | refine C_r ?_ | refine C0_r ?_ | refine O_r ?_ | refine R_r ?_); (conv => whnf); first | (refine ⟨fun hb => ?_, fun hb => ?_⟩ <;> try exact no_way) | refine A_o ?_ | refine B_o ?_ | refine C_o ?_ | refine R_o ?_ | refine fR ?_ | refine fRk ?_ | refine F_o ?_) | refine B_l (c1) (fun h1 => ?_) fun h1 => ?_ | refine C_l (c2) ?_ | refine SA_l ?_ | refine V_l ?_ | refine L_l ?_ | refine Q_l ?_ | refine X_l ?_ | refine Xa_l ?_ | refine Xs_l ?_ | refine K_l ?_ | refine Ka_l ?_ | refine Lk_l ?_ | refine Up_l ?_ | refine Del_l ?_ | refine St_l ?_ | refine LU_l ?_ | refine Xw_l ?_ | refine Le_l ?_ | refine Se_l ?_ | refine M_l ?_ | refine A_l ?_ | refine A0_l ?_ | refine A1_l ?_ | refine Mk_l ?_ | refine Kz_l ?_ | refine W_l ?_ | fail)
  · exact ⟨by rw [h1, hb]; rfl, rfl⟩
  · exact ⟨by rw [h1, hb]; rfl, rfl⟩
  · exact ⟨by rw [h1]; rfl, rfl⟩
theorem ruleR (r : Rule) (h : r.good) : Comp Tryd.prog 49 [.agg (r.row.map .d)] (bool (ruleF r)) := by
  have c1 := nameR r.call h.1
  have c2 := allStr 24 nameF r.params h.2.1 (fun s hs => nameR s (h.2.2.1 s hs))
  have c3 := allExpr 73 condF r.cond h.2.2.2.1 (fun e he => condR e (h.2.2.2.2 e he))
  unfold ruleF
  obtain ⟨rc, rp, rq⟩ := r
  refine Spec.body (C := cx [] 22) fits (fn := Tryd.f49) Tryd.func49 rfl (by decide) (by decide) (gI ?_)
  repeat' (first | ((first | refine C_r ?_ | refine C0_r ?_ | refine O_r ?_ | refine R_r ?_); (conv => whnf); first | (refine ⟨fun hb => ?_, fun hb => ?_⟩ <;> try exact no_way) | refine A_o ?_ | refine B_o ?_ | refine C_o ?_ | refine R_o ?_ | refine fR ?_ | refine fRk ?_ | refine F_o ?_) | refine B_l (c1) (fun h1 => ?_) fun h1 => ?_ | refine B_l (c2) (fun h2 => ?_) fun h2 => ?_ | refine C_l (c3) ?_ | refine SA_l ?_ | refine V_l ?_ | refine L_l ?_ | refine Q_l ?_ | refine X_l ?_ | refine Xa_l ?_ | refine Xs_l ?_ | refine K_l ?_ | refine Ka_l ?_ | refine Lk_l ?_ | refine Up_l ?_ | refine Del_l ?_ | refine St_l ?_ | refine LU_l ?_ | refine Xw_l ?_ | refine Le_l ?_ | refine Se_l ?_ | refine M_l ?_ | refine A_l ?_ | refine A0_l ?_ | refine A1_l ?_ | refine Mk_l ?_ | refine Kz_l ?_ | refine W_l ?_ | fail)
  · have hq : ¬ rq.length ≤ 1 := by simp at hb; omega
    exact ⟨by simp only [h1, h2, decide_eq_false hq]; rfl, rfl⟩
  · have hq : rq.length ≤ 1 := by simp at hb; omega
    exact ⟨by simp only [h1, h2, decide_eq_true hq, Bool.true_and]; rfl, rfl⟩
  · exact ⟨by simp only [h1, h2]; rfl, rfl⟩
  · exact ⟨by simp only [h1]; rfl, rfl⟩
theorem partRR (p : Part) (h : p.good) : Comp Tryd.prog 29 [.agg (p.row.map .d)] (bool (partRF p)) := by
  have c1 := nameR p.use h.1
  have c2 := allRule 49 ruleF p.rules h.2.1 (fun r hr => ruleR r (h.2.2 r hr))
  have c3 := actionR p.act
  unfold partRF
  obtain ⟨xu, ⟨xk, xd⟩, xr⟩ := p
  by_cases he : xu = ⟨#[]⟩
  · have be : (!(xu == (⟨#[]⟩ : ByteArray))) = false := by simp [ba_beq, he]
    rw [if_pos he]
    refine Spec.body (C := cx [] 29) fits (fn := Tryd.f29) Tryd.func29 rfl (by decide) (by decide) (gI ?_)
    repeat' (first | ((first | refine C_r ?_ | refine C0_r ?_ | refine O_r ?_ | refine R_r ?_); (conv => whnf); first | (refine ⟨fun hb => ?_, fun hb => ?_⟩ <;> try exact no_way) | refine A_o ?_ | refine B_o ?_ | refine C_o ?_ | refine R_o ?_ | refine fR ?_ | refine fRk ?_ | refine F_o ?_) | refine B_l (c3) (fun h3 => ?_) fun h3 => ?_ | refine C_l (c2) ?_ | refine SA_l ?_ | refine V_l ?_ | refine L_l ?_ | refine Q_l ?_ | refine X_l ?_ | refine Xa_l ?_ | refine Xs_l ?_ | refine K_l ?_ | refine Ka_l ?_ | refine Lk_l ?_ | refine Up_l ?_ | refine Del_l ?_ | refine St_l ?_ | refine LU_l ?_ | refine Xw_l ?_ | refine Le_l ?_ | refine Se_l ?_ | refine M_l ?_ | refine A_l ?_ | refine A0_l ?_ | refine A1_l ?_ | refine Mk_l ?_ | refine Kz_l ?_ | refine W_l ?_ | fail)
    all_goals first | exact ⟨by simp only [h3]; rfl, rfl⟩
  · have be : (!(xu == (⟨#[]⟩ : ByteArray))) = true := by simp [ba_beq, he]
    rw [if_neg he]
    refine Spec.body (C := cx [] 29) fits (fn := Tryd.f29) Tryd.func29 rfl (by decide) (by decide) (gI ?_)
    repeat' (first | ((first | refine C_r ?_ | refine C0_r ?_ | refine O_r ?_ | refine R_r ?_); (conv => whnf); first | (refine ⟨fun hb => ?_, fun hb => ?_⟩ <;> try exact no_way) | refine A_o ?_ | refine B_o ?_ | refine C_o ?_ | refine R_o ?_ | refine fR ?_ | refine fRk ?_ | refine F_o ?_) | refine B_l (c1) (fun h1 => ?_) fun h1 => ?_ | refine SA_l ?_ | refine V_l ?_ | refine L_l ?_ | refine Q_l ?_ | refine X_l ?_ | refine Xa_l ?_ | refine Xs_l ?_ | refine K_l ?_ | refine Ka_l ?_ | refine Lk_l ?_ | refine Up_l ?_ | refine Del_l ?_ | refine St_l ?_ | refine LU_l ?_ | refine Xw_l ?_ | refine Le_l ?_ | refine Se_l ?_ | refine M_l ?_ | refine A_l ?_ | refine A0_l ?_ | refine A1_l ?_ | refine Mk_l ?_ | refine Kz_l ?_ | refine W_l ?_ | fail)
    all_goals first
      | exact ⟨by rw [show nameF xu = true from h1, show (xk == 0 && (xd == 0 && true)) = true by assumption, show (((xr.map Rule.row).length : Int) == 0) = true by assumption]; rfl, rfl⟩
      | exact ⟨by rw [show nameF xu = true from h1, show (xk == 0 && (xd == 0 && true)) = true by assumption, show (((xr.map Rule.row).length : Int) == 0) = false by assumption]; rfl, rfl⟩
      | exact ⟨by rw [show nameF xu = true from h1, show (xk == 0 && (xd == 0 && true)) = false by assumption]; rfl, rfl⟩
      | exact ⟨by rw [show nameF xu = false from h1]; rfl, rfl⟩
theorem polRR (p : Pol) (h : p.good) : Comp Tryd.prog 27 [.agg (p.row.map .d)] (bool (polRF p)) := by
  have c1 := nameR p.name h.1
  have c2 := allPart 29 partRF p.parts h.2.1 (fun r hr => partRR r (h.2.2 r hr))
  unfold polRF
  obtain ⟨pn, pp⟩ := p
  refine Spec.body (C := cx [] 11) fits (fn := Tryd.f27) Tryd.func27 rfl (by decide) (by decide) (gI ?_)
  repeat' (first | ((first | refine C_r ?_ | refine C0_r ?_ | refine O_r ?_ | refine R_r ?_); (conv => whnf); first | (refine ⟨fun hb => ?_, fun hb => ?_⟩ <;> try exact no_way) | refine A_o ?_ | refine B_o ?_ | refine C_o ?_ | refine R_o ?_ | refine fR ?_ | refine fRk ?_ | refine F_o ?_) | refine B_l (c1) (fun h1 => ?_) fun h1 => ?_ | refine B_l (c2) (fun h2 => ?_) fun h2 => ?_ | refine SA_l ?_ | refine V_l ?_ | refine L_l ?_ | refine Q_l ?_ | refine X_l ?_ | refine Xa_l ?_ | refine Xs_l ?_ | refine K_l ?_ | refine Ka_l ?_ | refine Lk_l ?_ | refine Up_l ?_ | refine Del_l ?_ | refine St_l ?_ | refine LU_l ?_ | refine Xw_l ?_ | refine Le_l ?_ | refine Se_l ?_ | refine M_l ?_ | refine A_l ?_ | refine A0_l ?_ | refine A1_l ?_ | refine Mk_l ?_ | refine Kz_l ?_ | refine W_l ?_ | fail)
  all_goals first | exact ⟨by simp only [h1, h2]; rfl, rfl⟩ | exact ⟨by simp only [h1]; rfl, rfl⟩
theorem defR (d : Def) (h : d.good) : Comp Tryd.prog 23 [.agg (d.row.map .d)] (bool (defF d)) := by
  have c1 := nameR d.name h.1
  have c2 := numberR (d.expr.size + 1) d.expr (Nat.lt_succ_self _) h.2.1
  unfold defF
  obtain ⟨xn, ⟨xk, xo, xm, xu, xl⟩⟩ := d
  refine Spec.body (C := cx [] 11) fits (fn := Tryd.f23) Tryd.func23 rfl (by decide) (by decide) (gI ?_)
  repeat' (first | ((first | refine C_r ?_ | refine C0_r ?_ | refine O_r ?_ | refine R_r ?_); (conv => whnf); first | (refine ⟨fun hb => ?_, fun hb => ?_⟩ <;> try exact no_way) | refine A_o ?_ | refine B_o ?_ | refine C_o ?_ | refine R_o ?_ | refine fR ?_ | refine fRk ?_ | refine F_o ?_) | refine B_l (c1) (fun h1 => ?_) fun h1 => ?_ | refine B_l (c2) (fun h2 => ?_) fun h2 => ?_ | refine SA_l ?_ | refine V_l ?_ | refine L_l ?_ | refine Q_l ?_ | refine X_l ?_ | refine Xa_l ?_ | refine Xs_l ?_ | refine K_l ?_ | refine Ka_l ?_ | refine Lk_l ?_ | refine Up_l ?_ | refine Del_l ?_ | refine St_l ?_ | refine LU_l ?_ | refine Xw_l ?_ | refine Le_l ?_ | refine Se_l ?_ | refine M_l ?_ | refine A_l ?_ | refine A0_l ?_ | refine A1_l ?_ | refine Mk_l ?_ | refine Kz_l ?_ | refine W_l ?_ | fail)
  all_goals first | exact ⟨by simp only [h1, h2]; rfl, rfl⟩ | exact ⟨by simp only [h1]; rfl, rfl⟩
theorem rightR (u : Un) (h : u.good) : Comp Tryd.prog 16 [.agg u.cells] (bool (rightF u)) := by
  have c1 := allDefine 23 defF u.defs h.1 (fun r hr => defR r (h.2.1 r hr))
  have c2 := allPolicy 27 polRF u.pols h.2.2.1 (fun r hr => polRR r (h.2.2.2.1 r hr))
  have c3 := allStr 24 nameF u.main h.2.2.2.2.1 (fun s hs => nameR s (h.2.2.2.2.2 s hs))
  have c4 := actionR u.dflt
  unfold rightF
  obtain ⟨ds, ps, ms, ⟨dk, dd⟩⟩ := u
  refine Spec.body (C := cx [] 27) fits (fn := Tryd.f16) Tryd.func16 rfl (by decide) (by decide) (gI ?_)
  repeat' (first | ((first | refine C_r ?_ | refine C0_r ?_ | refine O_r ?_ | refine R_r ?_); (conv => whnf); first | (refine ⟨fun hb => ?_, fun hb => ?_⟩ <;> try exact no_way) | refine A_o ?_ | refine B_o ?_ | refine C_o ?_ | refine R_o ?_ | refine fR ?_ | refine fRk ?_ | refine F_o ?_) | refine B_l (c1) (fun h1 => ?_) fun h1 => ?_ | refine B_l (c2) (fun h2 => ?_) fun h2 => ?_ | refine B_l (c3) (fun h3 => ?_) fun h3 => ?_ | refine B_l (c4) (fun h4 => ?_) fun h4 => ?_ | refine SA_l ?_ | refine V_l ?_ | refine L_l ?_ | refine Q_l ?_ | refine X_l ?_ | refine Xa_l ?_ | refine Xs_l ?_ | refine K_l ?_ | refine Ka_l ?_ | refine Lk_l ?_ | refine Up_l ?_ | refine Del_l ?_ | refine St_l ?_ | refine LU_l ?_ | refine Xw_l ?_ | refine Le_l ?_ | refine Se_l ?_ | refine M_l ?_ | refine A_l ?_ | refine A0_l ?_ | refine A1_l ?_ | refine Mk_l ?_ | refine Kz_l ?_ | refine W_l ?_ | fail)
  all_goals first
    | exact ⟨by simp only [h1]; rfl, rfl⟩
    | exact ⟨by simp only [h1, h2]; rfl, rfl⟩
    | (have hm : decide (((ms.map strow).length : Int) > 0) = false := (by assumption); exact ⟨by simp only [h1, h2, hm]; rfl, rfl⟩)
    | (have hm : decide (((ms.map strow).length : Int) > 0) = true := (by assumption); exact ⟨by simp only [h1, h2, h3, hm]; rfl, rfl⟩)
    | (have hm : decide (((ms.map strow).length : Int) > 0) = true := (by assumption); exact ⟨by simp only [h1, h2, h3, h4, hm]; rfl, rfl⟩)
end Go.Proofs.YtjjhckmnnaafkaaDoor
namespace Go.Proofs.YtjjhckmnnaafkaaDoor
open Go Go.Am Go.Proofs
attribute [local irreducible] W WL DL WO RoundEnd
set_option maxRecDepth 10000
set_option maxHeartbeats 4000000
theorem inR (l : List ByteArray) (s : ByteArray) (hl : l.length < 2 ^ 60) : Comp Tryd.prog 14 [lst strow l, str s] (bool (l.any (· == s))) := by
  refine Spec.body (C := cx [] 18) fits (fn := Tryd.f14) Tryd.func14 rfl (by decide) (by decide) (gI ?_)
  refine ST wz ?_ <;> (repeat' (first | exact Wl.mk | refine wy1 ?_ ?_)) <;> repeat (intro hb; have hx := wy5 hb; clear hx)
  refine wLoop [0, 1, 5] 0 (l.length + 1) ?_
  refine (fun key => key l [] _ rfl rfl rfl : (∀ (rest done : List ByteArray) (j : Int), l = done ++ rest → j = done.length → l.any (· == s) = rest.any (· == s) →
    WR2 _ _ _ _ _ (rest.length + 1) [(0, lst strow l), (1, str s), (5, int .i64 j)] []) → _) ?_
  intro rest
  induction rest with
  | nil =>
    intro done j hl hj he
    have hlen : l.length = done.length := by subst hl; simp
    refine wR (gI ?_)
    refine ST wz ?_ <;> (repeat' (first | exact Wl.mk | refine wy1 ?_ ?_)) <;> repeat (intro hb; have hx := wy5 hb; clear hx)
    exact ⟨by rw [he]; rfl, rfl⟩
  | cons x rest ih =>
    intro done j hl hj he
    have hlen : l.length = done.length + (rest.length + 1) := by subst hl; simp
    refine wR (gI ?_)
    refine ST wz ?_ <;> (repeat' (first | exact Wl.mk | refine wy1 ?_ ?_)) <;> repeat (intro hb; have hx := wy5 hb; clear hx)
    · exact ⟨by rw [he, List.any_cons, hb]; rfl, rfl⟩
    · refine rE (ih (done ++ [x]) _ ?_ ?_ ?_)
      · simp [hl]
      · rw [wrap_ok (by omega) (by omega)]; simp [hj]
      · rw [he, List.any_cons, hb]; rfl
mutual
def Ex.eqb : Ex → Ex → Bool
  | .mk k o n u l, .mk k' o' n' u' l' => k == k' && (o == o' && (n == n' && (u == u' && Ex.eqbs l l')))
def Ex.eqbs : List Ex → List Ex → Bool
  | [], [] => true
  | x :: l, y :: m => Ex.eqb x y && Ex.eqbs l m
  | [], _ :: _ => false
  | _ :: _, [] => false
end
theorem Ex.eqbs_len : ∀ {l m : List Ex}, l.length ≠ m.length → Ex.eqbs l m = false
  | [], [], h => absurd rfl h
  | [], _ :: _, _ => rfl
  | _ :: _, [], _ => rfl
  | x :: l, y :: m, h => by simp only [Ex.eqbs]; rw [Ex.eqbs_len (by simpa using h)]; simp
end Go.Proofs.YtjjhckmnnaafkaaDoor
namespace Go.Proofs.YtjjhckmnnaafkaaDoor
open Go Go.Am Go.Proofs
attribute [local irreducible] W WL DL WO RoundEnd
set_option maxRecDepth 10000
set_option maxHeartbeats 4000000
def Act.eqb (a b : Act) : Bool := a.kind == b.kind && a.data == b.data
def Rule.eqb (r s : Rule) : Bool := r.call == s.call && (pw (· == ·) r.params s.params && Ex.eqbs r.cond s.cond)
def Part.eqb (p q : Part) : Bool := p.use == q.use && (p.act.eqb q.act && pw Rule.eqb p.rules q.rules)
def Rule.ok (r : Rule) : Prop := r.params.length * 16 ≤ 2 ^ 47 ∧ r.cond.length * 72 ≤ 2 ^ 47 ∧ Ex.oks r.cond
def Part.ok (p : Part) : Prop := p.rules.length * 64 ≤ 2 ^ 47 ∧ ∀ r ∈ p.rules, r.ok
def Part.cells (x : Part) : List Cell := [.d (.sc (.string x.use)), .d (.sc (.int .i64 x.act.kind)), .d (.sc (.int .i64 x.act.data)), .d (.list (x.rules.map Rule.row))]
def Rule.cells (x : Rule) : List Cell := [.d (.sc (.string x.call)), .d (.list (x.params.map strow)), .d (.list (x.cond.map Ex.row))]
end Go.Proofs.YtjjhckmnnaafkaaDoor
namespace Go.Proofs.YtjjhckmnnaafkaaDoor
open Go Go.Am Go.Proofs
attribute [local irreducible] W WL DL WO RoundEnd
set_option maxRecDepth 10000
set_option maxHeartbeats 4000000
/-! the document's functions, by the same pure words -/
theorem letterD (b : UInt8) : Comp Tryd.prog 12 [int .u8 b.toNat] (bool (letterF b)) := by
  refine Spec.body (C := cx [] 21) fits (fn := Tryd.f12) Tryd.func12 rfl (by decide) (by decide) (gI ?_)
  refine ST wz ?_ <;> (repeat' (first | exact Wl.mk | refine wy1 ?_ ?_)) <;> repeat (intro hb; have hx := wy5 hb; clear hx)
  all_goals (refine ⟨?_, rfl⟩)
  all_goals (refine congrArg Am.bool ?_)
  all_goals (simp only [beq_iff_eq, beq_eq_false_iff_ne, decide_eq_true_eq, decide_eq_false_iff_not, ge_iff_le] at *)
  all_goals (simp [letterF]; omega)
theorem digitD (b : UInt8) : Comp Tryd.prog 13 [int .u8 b.toNat] (bool (digitF b)) := by
  refine Spec.body (C := cx [] 9) fits (fn := Tryd.f13) Tryd.func13 rfl (by decide) (by decide) (gI ?_)
  refine ST wz ?_ <;> (repeat' (first | exact Wl.mk | refine wy1 ?_ ?_)) <;> repeat (intro hb; have hx := wy5 hb; clear hx)
  all_goals (refine ⟨?_, rfl⟩)
  all_goals (refine congrArg Am.bool ?_)
  all_goals (simp only [beq_iff_eq, beq_eq_false_iff_ne, decide_eq_true_eq, decide_eq_false_iff_not, ge_iff_le] at *)
  all_goals (simp [digitF]; omega)
theorem runF_all (p : UInt8 → Bool) : ∀ (l : List UInt8) (n : Int), (runF p l n == n + (l.length : Int)) = l.all p
  | [], n => by simp [runF]
  | x :: r, n => by
    have ih := runF_all p r (n + 1)
    rw [runF, List.all_cons]
    cases h : p x with
    | true =>
      simp only [if_true, Bool.true_and]
      rw [← ih]
      congr 1
      simp only [List.length_cons]; omega
    | false =>
      simp only [Bool.false_eq_true, if_false, Bool.false_and]
      rw [Bool.eq_false_iff]
      intro hc
      rw [beq_iff_eq] at hc
      simp only [List.length_cons] at hc
      omega
theorem any_flip (l : List ByteArray) (s : ByteArray) : l.any (· == s) = l.any (s == ·) := by
  congr 1; funext x
  rw [ba_beq, ba_beq]
  by_cases h : x = s
  · simp [h]
  · rw [decide_eq_false h, decide_eq_false (fun e => h e.symm)]
theorem nameD (s : ByteArray) (hs : s.size < 2 ^ 60) : Comp Tryd.prog 6 [str s] (bool (nameF s)) := by
  have hsz : s.size = s.data.toList.length := rfl
  generalize hfb : nameF s = fb
  cases hd : s.data.toList with
  | nil =>
    have he : s = ⟨#[]⟩ := by
      obtain ⟨⟨l⟩⟩ := s
      simp at hd; subst hd; rfl
    subst he
    refine Spec.body (C := cx [] 34) fits (fn := Tryd.f6) Tryd.func6 rfl (by decide) (by decide) (gI ?_)
    refine ST wz ?_ <;> (repeat' (first | exact Wl.mk | refine wy1 ?_ ?_)) <;> repeat (intro hb; have hx := wy5 hb; clear hx)
    exact ⟨by rw [← hfb]; rfl, rfl⟩
  | cons b r =>
    have c1 := letterD b
    have h0 : s.data.toList[(0 : Int).toNat]? = some b := by rw [hd]; rfl
    have hne : s ≠ ⟨#[]⟩ := by rintro rfl; simp at hd
    have bne : (s == (⟨#[]⟩ : ByteArray)) = false := by rw [ba_beq]; simp [hne]
    have hw : nameF s = ((letterF b && s.data.toList.all innerF) && !keyW.any (s == ·)) := by
      have := runF_all innerF s.data.toList 0
      rw [nameF, ← this]
      congr 1
      simp only [wordF, hd]
      congr 2
      simp
    rw [hw] at hfb
    refine Spec.body (C := cx [] 34) fits (fn := Tryd.f6) Tryd.func6 rfl (by decide) (by decide) (gI ?_)
    repeat' (first | ((first | refine C_r ?_ | refine C0_r ?_ | refine O_r ?_ | refine R_r ?_); (conv => whnf); first | (refine ⟨fun hb => ?_, fun hb => ?_⟩ <;> try exact no_way) | refine A_o ?_ | refine B_o ?_ | refine C_o ?_ | refine R_o ?_ | refine fR ?_ | refine fRk ?_ | refine F_o ?_) | refine B_l (c1) (fun h1 => ?_) fun h1 => ?_ | refine SA_l ?_ | refine V_l ?_ | refine L_l ?_ | refine Q_l ?_ | refine X_l ?_ | refine Xa_l ?_ | refine Xs_l ?_ | refine K_l ?_ | refine Ka_l ?_ | refine Lk_l ?_ | refine Up_l ?_ | refine Del_l ?_ | refine St_l ?_ | refine LU_l ?_ | refine Xw_l ?_ | refine Le_l ?_ | refine Se_l ?_ | refine M_l ?_ | refine A_l ?_ | refine A0_l ?_ | refine A1_l ?_ | refine Mk_l ?_ | refine Kz_l ?_ | refine W_l ?_ | fail)
    rotate_left
    · exact ⟨by rw [← hfb, h1]; rfl, rfl⟩
    rw [h1, Bool.true_and] at hfb
    refine wLoop [0, 3] 0 (s.data.toList.length + 1) ?_
    refine (fun key => key s.data.toList [] _ rfl rfl hfb.symm :
      (∀ (rest done : List UInt8) (j : Int), s.data.toList = done ++ rest → j = done.length → fb = (rest.all innerF && !keyW.any (s == ·)) →
      WR2 _ _ _ _ _ (rest.length + 1) [(0, str s), (3, int .i64 j)] []) → _) ?_
    intro rest
    induction rest with
    | nil =>
      intro done j g1 hj hr
      have hlen : s.data.toList.length = done.length := by rw [g1]; simp
      have c3 := inR keyW s (by decide)
      rw [any_flip] at c3
      refine wR (gI ?_)
      repeat' (first | ((first | refine C_r ?_ | refine C0_r ?_ | refine O_r ?_ | refine R_r ?_); (conv => whnf); first | (refine ⟨fun hb => ?_, fun hb => ?_⟩ <;> try exact no_way) | refine A_o ?_ | refine B_o ?_ | refine C_o ?_ | refine R_o ?_ | refine fR ?_ | refine fRk ?_ | refine F_o ?_) | refine B_l (c3) (fun h3 => ?_) fun h3 => ?_ | refine SA_l ?_ | refine V_l ?_ | refine L_l ?_ | refine Q_l ?_ | refine X_l ?_ | refine Xa_l ?_ | refine Xs_l ?_ | refine K_l ?_ | refine Ka_l ?_ | refine Lk_l ?_ | refine Up_l ?_ | refine Del_l ?_ | refine St_l ?_ | refine LU_l ?_ | refine Xw_l ?_ | refine Le_l ?_ | refine Se_l ?_ | refine M_l ?_ | refine A_l ?_ | refine A0_l ?_ | refine A1_l ?_ | refine Mk_l ?_ | refine Kz_l ?_ | refine W_l ?_ | fail)
      all_goals exact ⟨by rw [hr, h3]; rfl, rfl⟩
    | cons x rest ih =>
      intro done j g1 hj hr
      have hlen : s.data.toList.length = done.length + (rest.length + 1) := by rw [g1]; simp
      have c4 := letterD x
      have c5 := digitD x
      have hin : innerF x = (letterF x || digitF x) := rfl
      rw [List.all_cons, hin] at hr
      refine wR (gI ?_)
      repeat' (first | ((first | refine C_r ?_ | refine C0_r ?_ | refine O_r ?_ | refine R_r ?_); (conv => whnf); first | (refine ⟨fun hb => ?_, fun hb => ?_⟩ <;> try exact no_way) | refine A_o ?_ | refine B_o ?_ | refine C_o ?_ | refine R_o ?_ | refine fR ?_ | refine fRk ?_ | refine F_o ?_) | refine B_l (c4) (fun h4 => ?_) fun h4 => ?_ | refine B_l (c5) (fun h5 => ?_) fun h5 => ?_ | refine SA_l ?_ | refine V_l ?_ | refine L_l ?_ | refine Q_l ?_ | refine X_l ?_ | refine Xa_l ?_ | refine Xs_l ?_ | refine K_l ?_ | refine Ka_l ?_ | refine Lk_l ?_ | refine Up_l ?_ | refine Del_l ?_ | refine St_l ?_ | refine LU_l ?_ | refine Xw_l ?_ | refine Le_l ?_ | refine Se_l ?_ | refine M_l ?_ | refine A_l ?_ | refine A0_l ?_ | refine A1_l ?_ | refine Mk_l ?_ | refine Kz_l ?_ | refine W_l ?_ | fail)
      · refine rE (ih (done ++ [x]) _ (by rw [g1]; simp) ?_ ?_)
        · rw [wrap_ok (by omega) (by omega)]; simp [hj]
        · rw [hr, h4, Bool.true_or, Bool.true_and]
      · refine rE (ih (done ++ [x]) _ (by rw [g1]; simp) ?_ ?_)
        · rw [wrap_ok (by omega) (by omega)]; simp [hj]
        · rw [hr, h4, h5, Bool.false_or, Bool.true_and]
      · exact ⟨by rw [hr, h4, h5]; rfl, rfl⟩
end Go.Proofs.YtjjhckmnnaafkaaDoor
namespace Go.Proofs.YtjjhckmnnaafkaaDoor
open Go Go.Am Go.Proofs
attribute [local irreducible] W WL DL WO RoundEnd
set_option maxRecDepth 10000
set_option maxHeartbeats 4000000
def opF (s : ByteArray) : Int :=
  if s = ⟨#[61, 61]⟩ then 1 else if s = ⟨#[33, 61]⟩ then 2 else if s = ⟨#[60]⟩ then 3 else if s = ⟨#[60, 61]⟩ then 4 else if s = ⟨#[62]⟩ then 5 else if s = ⟨#[62, 61]⟩ then 6 else 0
end Go.Proofs.YtjjhckmnnaafkaaDoor
namespace Go.Proofs.YtjjhckmnnaafkaaDoor
open Go Go.Am Go.Proofs
attribute [local irreducible] W WL DL WO RoundEnd
set_option maxRecDepth 10000
set_option maxHeartbeats 4000000
theorem cloneS (l : List ByteArray) (hl : l.length * 16 ≤ 2 ^ 47) : Comp Tryd.prog 56 [lst strow l] (lst strow l) := by
  refine Spec.body (C := cx [(5, false)] 8) fits (fn := Tryd.f56) Tryd.func56 rfl (by decide) (by decide) (gI ?_)
  repeat' (first | ((first | refine C_r ?_ | refine C0_r ?_ | refine O_r ?_ | refine R_r ?_); (conv => whnf); first | (refine ⟨fun hb => ?_, fun hb => ?_⟩ <;> try exact no_way) | refine A_o ?_ | refine B_o ?_ | refine C_o ?_ | refine R_o ?_ | refine fR ?_ | refine fRk ?_ | refine F_o ?_) | refine fun k => lN fits (fun h0 => oW ?_ _) (oW ?_ _) | refine fun k => lA fits (rows := []) (oW ?_ _) (hsm := by simp only [most, List.length_map, List.length_nil]; omega) | refine SA_l ?_ | refine V_l ?_ | refine L_l ?_ | refine Q_l ?_ | refine X_l ?_ | refine Xa_l ?_ | refine Xs_l ?_ | refine K_l ?_ | refine Ka_l ?_ | refine Lk_l ?_ | refine Up_l ?_ | refine Del_l ?_ | refine St_l ?_ | refine LU_l ?_ | refine Xw_l ?_ | refine Le_l ?_ | refine Se_l ?_ | refine M_l ?_ | refine A_l ?_ | refine A0_l ?_ | refine A1_l ?_ | refine Mk_l ?_ | refine Kz_l ?_ | refine W_l ?_ | fail)
  · exact ⟨by simp only [lst, h0], rfl⟩
  · exact ⟨rfl, rfl⟩
theorem copiesR : ∀ (n : Nat) (l : List Ex), Ex.sizes l < n → l.length * 72 ≤ 2 ^ 47 → Ex.oks l → Comp Tryd.prog 57 [lst Ex.row l] (lst Ex.row l) := by
  intro n
  induction n with
  | zero => intro l h; omega
  | succ n IH =>
  intro l hn hl hok
  refine Spec.body (C := cx [(3, false)] 22) fits (fn := Tryd.f57) Tryd.func57 rfl (by decide) (by decide) (gI ?_)
  refine ST wz ?_ <;> (repeat' (first | exact Wl.mk | refine wy1 ?_ ?_)) <;> repeat (intro hb; have hx := wy5 hb; clear hx)
  refine wLoop [0, 3, 6, 7, 8] 1 (l.length + 1) ?_
  refine (fun key => key l [] _ rfl rfl : (∀ (rest done : List Ex) (j : Int), l = done ++ rest → j = done.length →
    WR2 _ _ _ _ _ (rest.length + 1) [(0, lst Ex.row l), (3, .one (.arr 0 0 (done.map Ex.row).length)), (6, lst Ex.row l), (7, int .i64 (l.map Ex.row).length), (8, int .i64 j)] [.arr 0 false 5 (done.map Ex.row)]) → _) ?_
  · intro rest
    induction rest with
    | nil =>
      intro done j hl1 hj
      have hlen : l.length = done.length := by subst hl1; simp
      refine wR (gI ?_)
      refine ST wz ?_ <;> (repeat' (first | exact Wl.mk | refine wy1 ?_ ?_)) <;> repeat (intro hb; have hx := wy5 hb; clear hx)
      refine ⟨?_, rfl⟩
      have : l = done := by simpa using hl1
      subst this; rfl
    | cons x rest ih =>
      intro done j hl1 hj
      have hlen : l.length = done.length + (rest.length + 1) := by subst hl1; simp
      have hx : x ∈ l := by subst hl1; simp
      have hsz := Ex.size_mem hx
      have hxo := Ex.oks_mem hok hx
      obtain ⟨kd, o, nm, u, ks⟩ := x
      have hc : Comp Tryd.prog 57 [.one (.d (.list (Ex.rows ks)))] (.one (.d (.list (Ex.rows ks)))) := by rw [Ex.rows_eq]; exact IH ks (by rw [Ex.size] at hsz; omega) hxo.1 hxo.2
      refine wR (gI ?_)
      refine ST (wc hc wz) ?_ <;> (repeat' (first | exact Wl.mk | refine wy1 ?_ ?_)) <;> repeat (intro hb; have hx := wy5 hb; clear hx)
      have g := ih (done ++ [Ex.mk kd o nm u ks]) (IntKind.wrap .i64 (j + 1)) (by simp [hl1]) (by rw [wrap_ok (by omega) (by omega)]; simp [hj])
      rw [List.map_append] at g
      exact rE g
/-- a rule of its own -/
theorem copyR (r : Rule) (hr : r.ok) : Comp Tryd.prog 34 [.agg (r.row.map .d)] (.agg (r.row.map .d)) := by
  obtain ⟨c, ps, q⟩ := r
  have h1 := cloneS ps hr.1
  have h2 := copiesR _ q (Nat.lt_succ_self _) hr.2.1 hr.2.2
  refine Spec.body (C := cx [] 12) fits (fn := Tryd.f34) Tryd.func34 rfl (by decide) (by decide) (gI ?_)
  refine ST (wc h1 (wc h2 wz)) ?_ <;> (repeat' (first | exact Wl.mk | refine wy1 ?_ ?_)) <;> repeat (intro hb; have hx := wy5 hb; clear hx)
  exact ⟨rfl, rfl⟩
end Go.Proofs.YtjjhckmnnaafkaaDoor
namespace Go.Proofs.YtjjhckmnnaafkaaDoor
open Go Go.Am Go.Proofs
attribute [local irreducible] W WL DL WO RoundEnd
set_option maxRecDepth 10000
set_option maxHeartbeats 4000000
abbrev MapE := List (Value × Am.FV)
/-- entries that are data -/
def pureE (E : MapE) : Prop := ∀ L, (E.all fun x => x.2.under L) = true
@[reducible] def flatSt (E1 E2 E3 : MapE) (out : List Part) : St :=
  [.map E1, .map E2, .map E3, .var [.map 0, .map 1, .map 2, .arr 4 0 (out.map Part.row).length], .arr 0 false 4 (out.map Part.row)]
theorem under6 {E1 E2 E3 : MapE} (h1 : pureE E1) (h2 : pureE E2) (h3 : pureE E3) {n ep ep' k : Nat} {m : Bool} {rows : List (List D)} :
    ([Ob.map E1, .map E2, .map E3, .var [.map 0, .map 1, .map 2, .arr 4 ep n], .arr ep' m k rows].all fun o => o.under (alive [Ob.map E1, .map E2, .map E3, .var [.map 0, .map 1, .map 2, .arr 4 ep n], .arr ep' m k rows])) = true := by
  simp only [List.all_cons, List.all_nil, Ob.under, h1 _, h2 _, h3 _, Bool.true_and, Bool.and_true]
  rfl
theorem under7 {E1 E2 E3 : MapE} (h1 : pureE E1) (h2 : pureE E2) (h3 : pureE E3) {n ep ep' k : Nat} {m : Bool} {rows : List (List D)} :
    ([Ob.map E1, .map E2, .map E3, .var [.map 0, .map 1, .map 2, .arr 4 ep n], .arr ep' m k rows].all fun o => o.under (Am.inR [0, 1, 2, 3, 4])) = true := by
  simp only [List.all_cons, List.all_nil, Ob.under, h1 _, h2 _, h3 _, Bool.true_and, Bool.and_true]
  rfl
def addE (out : List Part) : Int := if out.length > 500 then 9 else 0
theorem addR (E1 E2 E3 : MapE) (g1 : pureE E1) (g2 : pureE E2) (g3 : pureE E3) (out l : List Part) (h1 : out.length ≤ 600) (h2 : l.length ≤ 600) : Am.Spec Tryd.prog 54 [.one (.ptr 3 0), lst Part.row l] (flatSt E1 E2 E3 out)
    (fun x s => x = int .i64 (addE (out ++ l)) ∧ s = flatSt E1 E2 E3 (out ++ l)) := by
  refine Spec.body (C := cx [] 20) fits (fn := Tryd.f54) Tryd.func54 rfl (by decide) (by decide) (gI ?_)
  repeat' (first | refine fR ?_ (h6 := under6 g1 g2 g3) | ((first | refine C_r ?_ | refine C0_r ?_ | refine O_r ?_ | refine R_r ?_); (conv => whnf); first | (refine ⟨fun hb => ?_, fun hb => ?_⟩ <;> try exact no_way) | refine A_o ?_ | refine B_o ?_ | refine C_o ?_ | refine R_o ?_ | refine fR ?_ | refine fRk ?_ | refine F_o ?_) | refine SA_l ?_ | refine V_l ?_ | refine L_l ?_ | refine Q_l ?_ | refine X_l ?_ | refine Xa_l ?_ | refine Xs_l ?_ | refine K_l ?_ | refine Ka_l ?_ | refine Lk_l ?_ | refine Up_l ?_ | refine Del_l ?_ | refine St_l ?_ | refine LU_l ?_ | refine Xw_l ?_ | refine Le_l ?_ | refine Se_l ?_ | refine M_l ?_ | refine A_l ?_ | refine A0_l ?_ | refine A1_l ?_ | refine Mk_l ?_ | refine Kz_l ?_ | refine W_l ?_ | fail)
  · exact ⟨by rw [addE, if_pos (by simp at hb; simp; omega)]; rfl, by simp only [flatSt, List.map_append]⟩
  · exact ⟨by rw [addE, if_neg (by simp at hb; simp; omega)]; rfl, by simp only [flatSt, List.map_append]⟩
end Go.Proofs.YtjjhckmnnaafkaaDoor
namespace Go.Proofs.YtjjhckmnnaafkaaDoor
open Go Go.Am Go.Proofs
attribute [local irreducible] W WL DL WO RoundEnd
set_option maxRecDepth 10000
set_option maxHeartbeats 4000000
abbrev AL (α : Type) := List (ByteArray × α)
/-- what is kept while policies are put together -/
structure Fl where
  within : AL Unit
  known : AL (List Part)
  out : List Part
def encP (ps : List Part) (n : ByteArray) : Am.FV := .agg [.d (.sc (.string n)), .d (.list (ps.map Part.row))]
def entsM (l : AL (List Part)) : MapE := l.map fun p => (.string p.1, encP p.2 p.1)
def encW (_ : Unit) : Am.FV := .one (.d (.sc (.bool true)))
def encK (l : List Part) : Am.FV := .one (.d (.list (l.map Part.row)))
theorem pure_m (l : AL (List Part)) : pureE (entsM l) := by
  intro L; simp only [entsM, List.all_map, List.all_eq_true]; intro x _; rfl
theorem pure_w (l : AL Unit) : pureE (ents encW l) := by
  intro L; simp only [ents, List.all_map, List.all_eq_true]; intro x _; rfl
theorem pure_k (l : AL (List Part)) : pureE (ents encK l) := by
  intro L; simp only [ents, List.all_map, List.all_eq_true]; intro x _; rfl
theorem findKey_m (k : ByteArray) : ∀ (l : AL (List Part)) (i : Nat), findKey (.string k) (entsM l) i = some ((fk k l i).map fun p => (p.1, encP p.2 k))
  | [], i => rfl
  | (k', v) :: r, i => by
    show (match keyEq (.string k) (.string k') with
      | some true => some (some (i, encP v k'))
      | some false => findKey (.string k) (entsM r) (i + 1)
      | none => none) = _
    rw [findKey_m k r (i + 1)]
    simp only [keyEq, fk, ba_beq]
    by_cases h : k = k'
    · subst h; simp
    · simp [h]
/-- the program's way, in Lean; m: policies by name; n: how deep at most -/
def addF (s : Fl) (l : List Part) : Int × Fl := (addE (s.out ++ l), { s with out := s.out ++ l })
def partsF (g : Fl → ByteArray → Int × Fl) : Fl → List Part → Int × Fl
  | s, [] => (0, s)
  | s, x :: r =>
    let q := if x.use = ⟨#[]⟩ then addF s [x] else g s x.use
    if q.1 = 0 then partsF g q.2 r else q
def setK {α : Type} (l : AL α) (k : ByteArray) (v : α) : AL α :=
  match fk k l 0 with
  | some (i, _) => l.set i (k, v)
  | none => l ++ [(k, v)]
def delK {α : Type} (l : AL α) (k : ByteArray) : AL α :=
  match fk k l 0 with
  | some (i, _) => l.eraseIdx i
  | none => l
def polF (m : AL (List Part)) : Nat → Fl → ByteArray → Int × Fl
  | 0, s, _ => (0, s)
  | n + 1, s, name =>
    match fk name m 0 with
    | none => (7, s)
    | some (_, ps) => match fk name s.within 0 with
      | some _ => (5, s)
      | none => match fk name s.known 0 with
        | some (_, l) => addF s l
        | none =>
          let r := partsF (polF m n) { s with within := s.within ++ [(name, ())] } ps
          if r.1 = 0 then (0, { within := delK r.2.within name, known := setK r.2.known name (r.2.out.drop s.out.length), out := r.2.out }) else r
@[reducible] def stF (m : AL (List Part)) (s : Fl) : St := flatSt (entsM m) (ents encW s.within) (ents encK s.known) s.out
/-- a part's contract out of a policy's -/
theorem partR (m : AL (List Part)) (n : Nat) (s : Fl) (x : Part) (ho : s.out.length ≤ 500)
    (hp : x.use ≠ ⟨#[]⟩ → Am.Spec Tryd.prog 33 [.one (.ptr 3 0), str x.use] (stF m s) (fun v s' => v = int .i64 (polF m n s x.use).1 ∧ s' = stF m (polF m n s x.use).2)) :
    Am.Spec Tryd.prog 55 [.one (.ptr 3 0), .agg (x.row.map .d)] (stF m s)
      (fun v s' => v = int .i64 (if x.use = ⟨#[]⟩ then addF s [x] else polF m n s x.use).1 ∧ s' = stF m (if x.use = ⟨#[]⟩ then addF s [x] else polF m n s x.use).2) := by
  have ha := addR (entsM m) (ents encW s.within) (ents encK s.known) (pure_m _) (pure_w _) (pure_k _) s.out [x] (by omega) (by simp)
  obtain ⟨xu, ⟨xk, xd⟩, xr⟩ := x
  by_cases he : xu = ⟨#[]⟩
  · subst he
    simp only [if_true]
    refine Spec.body (C := cx [] 16) fits (fn := Tryd.f55) Tryd.func55 rfl (by decide) (by decide) (gI ?_)
    repeat' (first | refine fR ?_ (h6 := under6 (pure_m _) (pure_w _) (pure_k _)) | ((first | refine C_r ?_ | refine C0_r ?_ | refine O_r ?_ | refine R_r ?_); (conv => whnf); first | (refine ⟨fun hb => ?_, fun hb => ?_⟩ <;> try exact no_way) | refine A_o ?_ | refine B_o ?_ | refine C_o ?_ | refine R_o ?_ | refine fR ?_ | refine fRk ?_ | refine F_o ?_) | refine fun k => WL.crp [0, 1, 2, 3, 4] (stF m s) _ _ ha (oW ?_ _) (under6 (pure_m _) (pure_w _) (pure_k _)) (under7 (pure_m _) (pure_w _) (pure_k _)) | refine SA_l ?_ | refine V_l ?_ | refine L_l ?_ | refine Q_l ?_ | refine X_l ?_ | refine Xa_l ?_ | refine Xs_l ?_ | refine K_l ?_ | refine Ka_l ?_ | refine Lk_l ?_ | refine Up_l ?_ | refine Del_l ?_ | refine St_l ?_ | refine LU_l ?_ | refine Xw_l ?_ | refine Le_l ?_ | refine Se_l ?_ | refine M_l ?_ | refine A_l ?_ | refine A0_l ?_ | refine A1_l ?_ | refine Mk_l ?_ | refine Kz_l ?_ | refine W_l ?_ | fail)
    exact ⟨rfl, rfl⟩
  · simp only [if_neg he]
    have hp' := hp he
    refine Spec.body (C := cx [] 16) fits (fn := Tryd.f55) Tryd.func55 rfl (by decide) (by decide) (gI ?_)
    repeat' (first | refine fR ?_ (h6 := under6 (pure_m _) (pure_w _) (pure_k _)) | ((first | refine C_r ?_ | refine C0_r ?_ | refine O_r ?_ | refine R_r ?_); (conv => whnf); first | (refine ⟨fun hb => ?_, fun hb => ?_⟩ <;> try exact no_way) | refine A_o ?_ | refine B_o ?_ | refine C_o ?_ | refine R_o ?_ | refine fR ?_ | refine fRk ?_ | refine F_o ?_) | refine fun k => WL.crp [0, 1, 2, 3, 4] (stF m s) _ _ hp' (oW ?_ _) (under6 (pure_m _) (pure_w _) (pure_k _)) (under7 (pure_m _) (pure_w _) (pure_k _)) | refine SA_l ?_ | refine V_l ?_ | refine L_l ?_ | refine Q_l ?_ | refine X_l ?_ | refine Xa_l ?_ | refine Xs_l ?_ | refine K_l ?_ | refine Ka_l ?_ | refine Lk_l ?_ | refine Up_l ?_ | refine Del_l ?_ | refine St_l ?_ | refine LU_l ?_ | refine Xw_l ?_ | refine Le_l ?_ | refine Se_l ?_ | refine M_l ?_ | refine A_l ?_ | refine A0_l ?_ | refine A1_l ?_ | refine Mk_l ?_ | refine Kz_l ?_ | refine W_l ?_ | fail)
    · exact ⟨rfl, rfl⟩
    · exact absurd hb (by simp [ba_beq, he])
end Go.Proofs.YtjjhckmnnaafkaaDoor
namespace Go.Proofs.YtjjhckmnnaafkaaDoor
open Go Go.Am Go.Proofs
attribute [local irreducible] W WL DL WO RoundEnd
set_option maxRecDepth 10000
set_option maxHeartbeats 4000000
def Fl.ok (s : Fl) : Prop := s.out.length ≤ 500 ∧ ∀ p ∈ s.known, p.2.length ≤ 500
def room (m : AL (List Part)) (w : AL Unit) : Nat := ((m.map (·.1)).filter fun k => (fk k w 0).isNone).length
theorem addF_good {s : Fl} {l : List Part} (h : s.ok) (h0 : (addF s l).1 = 0) : (addF s l).2.ok ∧ (addF s l).2.within = s.within ∧ s.out.length ≤ (addF s l).2.out.length := by
  refine ⟨⟨?_, h.2⟩, rfl, by simp [addF]⟩
  simp only [addF, addE] at h0 ⊢
  split at h0
  · simp at h0
  · omega
theorem partsF_good {g : Fl → ByteArray → Int × Fl} (hg : ∀ s name, s.ok → (g s name).1 = 0 → (g s name).2.ok ∧ (g s name).2.within = s.within ∧ s.out.length ≤ (g s name).2.out.length) :
    ∀ (l : List Part) (s : Fl), s.ok → (partsF g s l).1 = 0 → (partsF g s l).2.ok ∧ (partsF g s l).2.within = s.within ∧ s.out.length ≤ (partsF g s l).2.out.length
  | [], s, h, _ => ⟨h, rfl, Nat.le_refl _⟩
  | x :: r, s, h, h0 => by
    have h1 : (if x.use = ⟨#[]⟩ then addF s [x] else g s x.use).1 = 0 → (if x.use = ⟨#[]⟩ then addF s [x] else g s x.use).2.ok ∧ (if x.use = ⟨#[]⟩ then addF s [x] else g s x.use).2.within = s.within ∧ s.out.length ≤ (if x.use = ⟨#[]⟩ then addF s [x] else g s x.use).2.out.length := by
      by_cases he : x.use = ⟨#[]⟩
      · simp only [if_pos he]; exact addF_good h
      · simp only [if_neg he]; exact hg _ _ h
    simp only [partsF] at h0 ⊢
    generalize (if x.use = ⟨#[]⟩ then addF s [x] else g s x.use) = q at h0 h1 ⊢
    by_cases hz : q.1 = 0
    · rw [if_pos hz] at h0 ⊢
      obtain ⟨h2, h3, h3'⟩ := h1 hz
      have h4 := partsF_good hg r _ h2 h0
      exact ⟨h4.1, by rw [h4.2.1, h3], Nat.le_trans h3' h4.2.2⟩
    · rw [if_neg hz] at h0; exact absurd h0 hz
theorem delK_last {α : Type} {k : ByteArray} {v : α} {l : AL α} (h : fk k l 0 = none) : delK (l ++ [(k, v)]) k = l := by
  have h1 := fk_append (m := [(k, v)]) (i := 0) (fk_none.1 h)
  simp only [delK, h1, fk, if_true, Nat.zero_add]
  rw [List.eraseIdx_append_of_length_le (Nat.le_refl _)]; simp
theorem setK_mem {α : Type} {k : ByteArray} {v : α} {l : AL α} {p : ByteArray × α} (h : p ∈ setK l k v) : p ∈ l ∨ p = (k, v) := by
  simp only [setK] at h
  split at h
  · exact List.mem_or_eq_of_mem_set h
  · simpa using h
theorem polF_good (m : AL (List Part)) : ∀ (n : Nat) (s : Fl) (name : ByteArray), s.ok → (polF m n s name).1 = 0 → (polF m n s name).2.ok ∧ (polF m n s name).2.within = s.within ∧ s.out.length ≤ (polF m n s name).2.out.length
  | 0, s, _, h, _ => ⟨h, rfl, Nat.le_refl _⟩
  | n + 1, s, name, h, h0 => by
    simp only [polF] at h0 ⊢
    split at h0
    · simp at h0
    · split at h0
      · simp at h0
      · split at h0
        · exact addF_good h h0
        · rename_i hw _ hk
          split at h0
          · rename_i hq
            rw [if_pos hq]
            have h1 := partsF_good (polF_good m n) _ ({ s with within := s.within ++ [(name, ())] }) h hq
            refine ⟨⟨h1.1.1, fun p hp => ?_⟩, by simp only; rw [h1.2.1]; exact delK_last hw, h1.2.2⟩
            rcases setK_mem hp with hp | rfl
            · exact h1.1.2 p hp
            · have := h1.1.1; simp; omega
          · rename_i hq; exact absurd h0 hq
theorem room_lt {m : AL (List Part)} {w : AL Unit} {name : ByteArray} {x : Nat × List Part} (h1 : fk name m 0 = some x) (h2 : fk name w 0 = none) : room m (w ++ [(name, ())]) < room m w := by
  have hm : name ∈ m.map (·.1) := Classical.byContradiction fun hn => by rw [fk_none.2 hn] at h1; simp at h1
  have key : ∀ k, (fk k (w ++ [(name, ())]) 0).isNone = (!decide (k = name) && (fk k w 0).isNone) := by
    intro k
    rw [Bool.eq_iff_iff]
    simp only [Option.isNone_iff_eq_none, Bool.and_eq_true, fk_none]
    simp [and_comm]
  simp only [room, key, ← List.filter_filter]
  rw [List.length_filter_lt_length_iff_exists]
  refine ⟨name, List.mem_filter.2 ⟨hm, by rw [h2]; rfl⟩, by simp⟩
end Go.Proofs.YtjjhckmnnaafkaaDoor
