/- A part of a proof: functions of the program walked over the abstract machine, and what they compute. -/
import Derived.Test.YtjjhckmnnaafkaaGreatDoorPWAp
import Derived.Test.YtjjhckmnnaafkaaGreatDoorPWAn
import Derived.Test.YtjjhckmnnaafkaaGreatDoorPWAo
set_option linter.unusedVariables false
set_option linter.unusedSimpArgs false
namespace Go.Proofs.YtjjhckmnnaafkaaGreatDoor
open Go Go.Am Go.Proofs
attribute [local irreducible] W WL DL WO RoundEnd
set_option maxRecDepth 10000
set_option maxHeartbeats 4000000
mutual
def depthF : Ex → Int
  | .mk _ _ _ _ l => depthsF l 0 + 1
def depthsF : List Ex → Int → Int
  | [], n => n
  | x :: r, n => depthsF r (max n (depthF x))
end
mutual
theorem depthF_le : ∀ e : Ex, 1 ≤ depthF e ∧ depthF e ≤ e.size
  | .mk _ _ _ _ l => by
    have := depthsF_le l 0
    rw [depthF, Ex.size]
    omega
theorem depthsF_le : ∀ (l : List Ex) (n : Int), n ≤ depthsF l n ∧ depthsF l n ≤ max n (Ex.sizes l)
  | [], n => by rw [depthsF, Ex.sizes]; omega
  | x :: r, n => by
    have h1 := depthF_le x
    have h2 := depthsF_le r (max n (depthF x))
    rw [depthsF, Ex.sizes]
    omega
end
theorem depthR : ∀ (n : Nat) (e : Ex), e.size < n → n < 2 ^ 60 → Comp Tryz.prog 97 [.agg (e.row.map .d)] (int .i64 (depthF e)) := by
  intro n
  induction n with
  | zero => intro e h; omega
  | succ n IH =>
  intro e hs hn
  obtain ⟨kd, o, nm, u, l⟩ := e
  have el : Ex.rows l = l.map Ex.row := Ex.rows_eq l
  simp only [Ex.row, el, List.map_cons, List.map_nil]
  rw [Ex.size] at hs
  have hlen0 : l.length ≤ Ex.sizes l := by
    clear el hs
    induction l with
    | nil => simp [Ex.sizes]
    | cons x r ih => obtain ⟨_, _, _, _, _⟩ := x; simp only [Ex.sizes, Ex.size, List.length_cons]; omega
  generalize hfb : depthF (.mk kd o nm u l) = fb
  rw [depthF] at hfb
  refine Spec.body (C := cx [] 20) fits (fn := Tryz.f97) Tryz.func97 rfl (by decide) (by decide) (gI ?_)
  refine ST wz ?_ <;> (repeat' (first | exact Wl.mk | refine wy1 ?_ ?_)) <;> repeat (intro hb; have hx := wy5 hb; clear hx)
  refine wLoop [3, 7, 8, 9] 1 (l.length + 1) ?_
  refine (fun key => key l [] _ 0 rfl rfl rfl (by omega) (by omega) :
    (∀ (rest done : List Ex) (j m : Int), l = done ++ rest → j = done.length → depthsF l 0 = depthsF rest m → 0 ≤ m → m ≤ Ex.sizes l →
    WR2 _ _ _ _ _ (rest.length + 1) [(3, int .i64 m), (7, lst Ex.row l), (8, int .i64 (l.map Ex.row).length), (9, int .i64 j)] [.var [.d (.sc (.int .i64 kd)), .d (.sc (.string o)), .d (.sc (.string nm)), .d (.sc (.int .u64 u)), .d (.list (l.map Ex.row))]]) → _) ?_
  intro rest
  induction rest with
  | nil =>
    intro done j m h1 hj hr hm hm2
    have hlen : l.length = done.length := by rw [h1]; simp
    refine wR (gI ?_)
    refine ST wz ?_ <;> (repeat' (first | exact Wl.mk | refine wy1 ?_ ?_)) <;> repeat (intro hb; have hx := wy5 hb; clear hx)
    exact ⟨by rw [wrap_ok (by omega) (by omega), ← hfb, hr, depthsF]; rfl, rfl⟩
  | cons x rest ih =>
    intro done j m h1 hj hr hm hm2
    have hlen : l.length = done.length + (rest.length + 1) := by rw [h1]; simp
    have hxs := Ex.size_mem (l := l) (x := x) (by rw [h1]; simp)
    have hc := IH x (by omega) (by omega)
    have hd := depthF_le x
    rw [depthsF] at hr
    obtain ⟨xk, xo, xn, xu, xl⟩ := x
    refine wR (gI ?_)
    refine ST (wc hc wz) ?_ <;> (repeat' (first | exact Wl.mk | refine wy1 ?_ ?_)) <;> repeat (intro hb; have hx := wy5 hb; clear hx)
    have e : max m (depthF (Ex.mk xk xo xn xu xl)) = (if depthF (Ex.mk xk xo xn xu xl) > m then depthF (Ex.mk xk xo xn xu xl) else m) := by split <;> omega
    refine rE (ih (done ++ [Ex.mk xk xo xn xu xl]) _ _ (by rw [h1]; simp) ?_ (by rw [hr, e]) (by split <;> omega) (by split <;> omega))
    rw [wrap_ok (by omega) (by omega)]; simp [hj]
def Ex.good (e : Ex) : Prop := e.nok ∧ e.size + 1 < 2 ^ 60
def Rule.good (r : Rule) : Prop := r.call.size < 2 ^ 60 ∧ r.params.length < 2 ^ 60 ∧ (∀ s ∈ r.params, s.size < 2 ^ 60) ∧ r.cond.length < 2 ^ 60 ∧ ∀ e ∈ r.cond, e.good
def Part.good (p : Part) : Prop := p.use.size < 2 ^ 60 ∧ p.rules.length < 2 ^ 60 ∧ ∀ r ∈ p.rules, r.good
def Pol.good (p : Pol) : Prop := p.name.size < 2 ^ 60 ∧ p.parts.length < 2 ^ 60 ∧ ∀ x ∈ p.parts, x.good
def Def.good (d : Def) : Prop := d.name.size < 2 ^ 60 ∧ d.expr.good
def Un.good (u : Un) : Prop := u.defs.length < 2 ^ 60 ∧ (∀ d ∈ u.defs, d.good) ∧ u.pols.length < 2 ^ 60 ∧ (∀ p ∈ u.pols, p.good) ∧ u.main.length < 2 ^ 60 ∧ ∀ s ∈ u.main, s.size < 2 ^ 60
def condF (e : Ex) : Bool := boolF (e.size + 1) e && decide (depthF e ≤ 30)
def ruleF (r : Rule) : Bool := nameF r.call && (r.params.all nameF && (decide (r.cond.length ≤ 1) && r.cond.all condF))
def partRF (p : Part) : Bool := if p.use = ⟨#[]⟩ then (valF p.act).2 && p.rules.all ruleF else nameF p.use && ((p.act.kind == 0 && (p.act.data == 0 && true)) && (((p.rules.map Rule.row).length : Int) == 0))
def polRF (p : Pol) : Bool := nameF p.name && p.parts.all partRF
def defF (d : Def) : Bool := nameF d.name && numF (d.expr.size + 1) d.expr
def rightF (u : Un) : Bool := u.defs.all defF && (u.pols.all polRF && (decide (((u.main.map strow).length : Int) > 0) && (u.main.all nameF && (valF u.dflt).2)))
theorem actionR (a : Act) : Comp Tryz.prog 35 [.agg (a.row.map .d)] (bool (valF a).2) := by
  have c1 := valueR a
  obtain ⟨kd, d⟩ := a
  refine Spec.body (C := cx [] 11) fits (fn := Tryz.f35) Tryz.func35 rfl (by decide) (by decide) (gI ?_)
  refine ST (wc c1 wz) ?_ <;> (repeat' (first | exact Wl.mk | refine wy1 ?_ ?_)) <;> repeat (intro hb; have hx := wy5 hb; clear hx)
  all_goals first | exact ⟨by rw [show (valF ⟨kd, d⟩).2 = true by assumption]; rfl, rfl⟩ | exact ⟨by rw [show (valF ⟨kd, d⟩).2 = false by assumption]; rfl, rfl⟩
theorem condR (e : Ex) (h : e.good) : Comp Tryz.prog 95 [.agg (e.row.map .d)] (bool (condF e)) := by
  have c1 := boolR (e.size + 1) e (Nat.lt_succ_self _) h.1
  have c2 := depthR (e.size + 1) e (Nat.lt_succ_self _) h.2
  unfold condF
  obtain ⟨kd, o, nm, u, l⟩ := e
  refine Spec.body (C := cx [] 10) fits (fn := Tryz.f95) Tryz.func95 rfl (by decide) (by decide) (gI ?_)
  repeat' (first | ((first | refine C_r ?_ | refine C0_r ?_ | refine O_r ?_ | refine R_r ?_); (conv => whnf); first | (refine ⟨fun hb => ?_, fun hb => ?_⟩ <;> try exact no_way) | refine A_o ?_ | refine B_o ?_ | refine C_o ?_ | refine R_o ?_ | refine fR ?_ | refine fRk ?_ | refine F_o ?_) | refine B_l (c1) (fun h1 => ?_) fun h1 => ?_ | refine C_l (c2) ?_ | refine SA_l ?_ | refine V_l ?_ | refine L_l ?_ | refine Q_l ?_ | refine X_l ?_ | refine Xa_l ?_ | refine Xs_l ?_ | refine K_l ?_ | refine Ka_l ?_ | refine Lk_l ?_ | refine Up_l ?_ | refine Del_l ?_ | refine St_l ?_ | refine LU_l ?_ | refine Xw_l ?_ | refine Le_l ?_ | refine Se_l ?_ | refine M_l ?_ | refine A_l ?_ | refine A0_l ?_ | refine A1_l ?_ | refine Mk_l ?_ | refine Kz_l ?_ | refine W_l ?_ | fail)
  · exact ⟨by rw [h1, hb]; rfl, rfl⟩
  · exact ⟨by rw [h1, hb]; rfl, rfl⟩
  · exact ⟨by rw [h1]; rfl, rfl⟩
theorem ruleR (r : Rule) (h : r.good) : Comp Tryz.prog 63 [.agg (r.row.map .d)] (bool (ruleF r)) := by
  have c1 := nameR r.call h.1
  have c2 := allStr 28 nameF r.params h.2.1 (fun s hs => nameR s (h.2.2.1 s hs))
  have c3 := allExpr 95 condF r.cond h.2.2.2.1 (fun e he => condR e (h.2.2.2.2 e he))
  unfold ruleF
  obtain ⟨rc, rp, rq⟩ := r
  refine Spec.body (C := cx [] 22) fits (fn := Tryz.f63) Tryz.func63 rfl (by decide) (by decide) (gI ?_)
  repeat' (first | ((first | refine C_r ?_ | refine C0_r ?_ | refine O_r ?_ | refine R_r ?_); (conv => whnf); first | (refine ⟨fun hb => ?_, fun hb => ?_⟩ <;> try exact no_way) | refine A_o ?_ | refine B_o ?_ | refine C_o ?_ | refine R_o ?_ | refine fR ?_ | refine fRk ?_ | refine F_o ?_) | refine B_l (c1) (fun h1 => ?_) fun h1 => ?_ | refine B_l (c2) (fun h2 => ?_) fun h2 => ?_ | refine C_l (c3) ?_ | refine SA_l ?_ | refine V_l ?_ | refine L_l ?_ | refine Q_l ?_ | refine X_l ?_ | refine Xa_l ?_ | refine Xs_l ?_ | refine K_l ?_ | refine Ka_l ?_ | refine Lk_l ?_ | refine Up_l ?_ | refine Del_l ?_ | refine St_l ?_ | refine LU_l ?_ | refine Xw_l ?_ | refine Le_l ?_ | refine Se_l ?_ | refine M_l ?_ | refine A_l ?_ | refine A0_l ?_ | refine A1_l ?_ | refine Mk_l ?_ | refine Kz_l ?_ | refine W_l ?_ | fail)
  · have hq : ¬ rq.length ≤ 1 := by simp at hb; omega
    exact ⟨by simp only [h1, h2, decide_eq_false hq]; rfl, rfl⟩
  · have hq : rq.length ≤ 1 := by simp at hb; omega
    exact ⟨by simp only [h1, h2, decide_eq_true hq, Bool.true_and]; rfl, rfl⟩
  · exact ⟨by simp only [h1, h2]; rfl, rfl⟩
  · exact ⟨by simp only [h1]; rfl, rfl⟩
theorem partRR (p : Part) (h : p.good) : Comp Tryz.prog 33 [.agg (p.row.map .d)] (bool (partRF p)) := by
  have c1 := nameR p.use h.1
  have c2 := allRule 63 ruleF p.rules h.2.1 (fun r hr => ruleR r (h.2.2 r hr))
  have c3 := actionR p.act
  unfold partRF
  obtain ⟨xu, ⟨xk, xd⟩, xr⟩ := p
  by_cases he : xu = ⟨#[]⟩
  · have be : (!(xu == (⟨#[]⟩ : ByteArray))) = false := by simp [ba_beq, he]
    rw [if_pos he]
    refine Spec.body (C := cx [] 29) fits (fn := Tryz.f33) Tryz.func33 rfl (by decide) (by decide) (gI ?_)
    repeat' (first | ((first | refine C_r ?_ | refine C0_r ?_ | refine O_r ?_ | refine R_r ?_); (conv => whnf); first | (refine ⟨fun hb => ?_, fun hb => ?_⟩ <;> try exact no_way) | refine A_o ?_ | refine B_o ?_ | refine C_o ?_ | refine R_o ?_ | refine fR ?_ | refine fRk ?_ | refine F_o ?_) | refine B_l (c3) (fun h3 => ?_) fun h3 => ?_ | refine C_l (c2) ?_ | refine SA_l ?_ | refine V_l ?_ | refine L_l ?_ | refine Q_l ?_ | refine X_l ?_ | refine Xa_l ?_ | refine Xs_l ?_ | refine K_l ?_ | refine Ka_l ?_ | refine Lk_l ?_ | refine Up_l ?_ | refine Del_l ?_ | refine St_l ?_ | refine LU_l ?_ | refine Xw_l ?_ | refine Le_l ?_ | refine Se_l ?_ | refine M_l ?_ | refine A_l ?_ | refine A0_l ?_ | refine A1_l ?_ | refine Mk_l ?_ | refine Kz_l ?_ | refine W_l ?_ | fail)
    all_goals first | exact ⟨by simp only [h3]; rfl, rfl⟩
  · have be : (!(xu == (⟨#[]⟩ : ByteArray))) = true := by simp [ba_beq, he]
    rw [if_neg he]
    refine Spec.body (C := cx [] 29) fits (fn := Tryz.f33) Tryz.func33 rfl (by decide) (by decide) (gI ?_)
    repeat' (first | ((first | refine C_r ?_ | refine C0_r ?_ | refine O_r ?_ | refine R_r ?_); (conv => whnf); first | (refine ⟨fun hb => ?_, fun hb => ?_⟩ <;> try exact no_way) | refine A_o ?_ | refine B_o ?_ | refine C_o ?_ | refine R_o ?_ | refine fR ?_ | refine fRk ?_ | refine F_o ?_) | refine B_l (c1) (fun h1 => ?_) fun h1 => ?_ | refine SA_l ?_ | refine V_l ?_ | refine L_l ?_ | refine Q_l ?_ | refine X_l ?_ | refine Xa_l ?_ | refine Xs_l ?_ | refine K_l ?_ | refine Ka_l ?_ | refine Lk_l ?_ | refine Up_l ?_ | refine Del_l ?_ | refine St_l ?_ | refine LU_l ?_ | refine Xw_l ?_ | refine Le_l ?_ | refine Se_l ?_ | refine M_l ?_ | refine A_l ?_ | refine A0_l ?_ | refine A1_l ?_ | refine Mk_l ?_ | refine Kz_l ?_ | refine W_l ?_ | fail)
    all_goals first
      | exact ⟨by rw [show nameF xu = true from h1, show (xk == 0 && (xd == 0 && true)) = true by assumption, show (((xr.map Rule.row).length : Int) == 0) = true by assumption]; rfl, rfl⟩
      | exact ⟨by rw [show nameF xu = true from h1, show (xk == 0 && (xd == 0 && true)) = true by assumption, show (((xr.map Rule.row).length : Int) == 0) = false by assumption]; rfl, rfl⟩
      | exact ⟨by rw [show nameF xu = true from h1, show (xk == 0 && (xd == 0 && true)) = false by assumption]; rfl, rfl⟩
      | exact ⟨by rw [show nameF xu = false from h1]; rfl, rfl⟩
theorem polRR (p : Pol) (h : p.good) : Comp Tryz.prog 31 [.agg (p.row.map .d)] (bool (polRF p)) := by
  have c1 := nameR p.name h.1
  have c2 := allPart 33 partRF p.parts h.2.1 (fun r hr => partRR r (h.2.2 r hr))
  unfold polRF
  obtain ⟨pn, pp⟩ := p
  refine Spec.body (C := cx [] 11) fits (fn := Tryz.f31) Tryz.func31 rfl (by decide) (by decide) (gI ?_)
  repeat' (first | ((first | refine C_r ?_ | refine C0_r ?_ | refine O_r ?_ | refine R_r ?_); (conv => whnf); first | (refine ⟨fun hb => ?_, fun hb => ?_⟩ <;> try exact no_way) | refine A_o ?_ | refine B_o ?_ | refine C_o ?_ | refine R_o ?_ | refine fR ?_ | refine fRk ?_ | refine F_o ?_) | refine B_l (c1) (fun h1 => ?_) fun h1 => ?_ | refine B_l (c2) (fun h2 => ?_) fun h2 => ?_ | refine SA_l ?_ | refine V_l ?_ | refine L_l ?_ | refine Q_l ?_ | refine X_l ?_ | refine Xa_l ?_ | refine Xs_l ?_ | refine K_l ?_ | refine Ka_l ?_ | refine Lk_l ?_ | refine Up_l ?_ | refine Del_l ?_ | refine St_l ?_ | refine LU_l ?_ | refine Xw_l ?_ | refine Le_l ?_ | refine Se_l ?_ | refine M_l ?_ | refine A_l ?_ | refine A0_l ?_ | refine A1_l ?_ | refine Mk_l ?_ | refine Kz_l ?_ | refine W_l ?_ | fail)
  all_goals first | exact ⟨by simp only [h1, h2]; rfl, rfl⟩ | exact ⟨by simp only [h1]; rfl, rfl⟩
theorem defR (d : Def) (h : d.good) : Comp Tryz.prog 27 [.agg (d.row.map .d)] (bool (defF d)) := by
  have c1 := nameR d.name h.1
  have c2 := numberR (d.expr.size + 1) d.expr (Nat.lt_succ_self _) h.2.1
  unfold defF
  obtain ⟨xn, ⟨xk, xo, xm, xu, xl⟩⟩ := d
  refine Spec.body (C := cx [] 11) fits (fn := Tryz.f27) Tryz.func27 rfl (by decide) (by decide) (gI ?_)
  repeat' (first | ((first | refine C_r ?_ | refine C0_r ?_ | refine O_r ?_ | refine R_r ?_); (conv => whnf); first | (refine ⟨fun hb => ?_, fun hb => ?_⟩ <;> try exact no_way) | refine A_o ?_ | refine B_o ?_ | refine C_o ?_ | refine R_o ?_ | refine fR ?_ | refine fRk ?_ | refine F_o ?_) | refine B_l (c1) (fun h1 => ?_) fun h1 => ?_ | refine B_l (c2) (fun h2 => ?_) fun h2 => ?_ | refine SA_l ?_ | refine V_l ?_ | refine L_l ?_ | refine Q_l ?_ | refine X_l ?_ | refine Xa_l ?_ | refine Xs_l ?_ | refine K_l ?_ | refine Ka_l ?_ | refine Lk_l ?_ | refine Up_l ?_ | refine Del_l ?_ | refine St_l ?_ | refine LU_l ?_ | refine Xw_l ?_ | refine Le_l ?_ | refine Se_l ?_ | refine M_l ?_ | refine A_l ?_ | refine A0_l ?_ | refine A1_l ?_ | refine Mk_l ?_ | refine Kz_l ?_ | refine W_l ?_ | fail)
  all_goals first | exact ⟨by simp only [h1, h2]; rfl, rfl⟩ | exact ⟨by simp only [h1]; rfl, rfl⟩
theorem rightR (u : Un) (h : u.good) : Comp Tryz.prog 13 [.agg u.cells] (bool (rightF u)) := by
  have c1 := allDefine 27 defF u.defs h.1 (fun r hr => defR r (h.2.1 r hr))
  have c2 := allPolicy 31 polRF u.pols h.2.2.1 (fun r hr => polRR r (h.2.2.2.1 r hr))
  have c3 := allStr 28 nameF u.main h.2.2.2.2.1 (fun s hs => nameR s (h.2.2.2.2.2 s hs))
  have c4 := actionR u.dflt
  unfold rightF
  obtain ⟨ds, ps, ms, ⟨dk, dd⟩⟩ := u
  refine Spec.body (C := cx [] 27) fits (fn := Tryz.f13) Tryz.func13 rfl (by decide) (by decide) (gI ?_)
  repeat' (first | ((first | refine C_r ?_ | refine C0_r ?_ | refine O_r ?_ | refine R_r ?_); (conv => whnf); first | (refine ⟨fun hb => ?_, fun hb => ?_⟩ <;> try exact no_way) | refine A_o ?_ | refine B_o ?_ | refine C_o ?_ | refine R_o ?_ | refine fR ?_ | refine fRk ?_ | refine F_o ?_) | refine B_l (c1) (fun h1 => ?_) fun h1 => ?_ | refine B_l (c2) (fun h2 => ?_) fun h2 => ?_ | refine B_l (c3) (fun h3 => ?_) fun h3 => ?_ | refine B_l (c4) (fun h4 => ?_) fun h4 => ?_ | refine SA_l ?_ | refine V_l ?_ | refine L_l ?_ | refine Q_l ?_ | refine X_l ?_ | refine Xa_l ?_ | refine Xs_l ?_ | refine K_l ?_ | refine Ka_l ?_ | refine Lk_l ?_ | refine Up_l ?_ | refine Del_l ?_ | refine St_l ?_ | refine LU_l ?_ | refine Xw_l ?_ | refine Le_l ?_ | refine Se_l ?_ | refine M_l ?_ | refine A_l ?_ | refine A0_l ?_ | refine A1_l ?_ | refine Mk_l ?_ | refine Kz_l ?_ | refine W_l ?_ | fail)
  all_goals first
    | exact ⟨by simp only [h1]; rfl, rfl⟩
    | exact ⟨by simp only [h1, h2]; rfl, rfl⟩
    | (have hm : decide (((ms.map strow).length : Int) > 0) = false := (by assumption); exact ⟨by simp only [h1, h2, hm]; rfl, rfl⟩)
    | (have hm : decide (((ms.map strow).length : Int) > 0) = true := (by assumption); exact ⟨by simp only [h1, h2, h3, hm]; rfl, rfl⟩)
    | (have hm : decide (((ms.map strow).length : Int) > 0) = true := (by assumption); exact ⟨by simp only [h1, h2, h3, h4, hm]; rfl, rfl⟩)
end Go.Proofs.YtjjhckmnnaafkaaGreatDoor
namespace Go.Proofs.YtjjhckmnnaafkaaGreatDoor
open Go Go.Am Go.Proofs
attribute [local irreducible] W WL DL WO RoundEnd
set_option maxRecDepth 10000
set_option maxHeartbeats 4000000
theorem inR (l : List ByteArray) (s : ByteArray) (hl : l.length < 2 ^ 60) : Comp Tryz.prog 78 [lst strow l, str s] (bool (l.any (· == s))) := by
  refine Spec.body (C := cx [] 18) fits (fn := Tryz.f78) Tryz.func78 rfl (by decide) (by decide) (gI ?_)
  refine ST wz ?_ <;> (repeat' (first | exact Wl.mk | refine wy1 ?_ ?_)) <;> repeat (intro hb; have hx := wy5 hb; clear hx)
  refine wLoop [0, 1, 5] 0 (l.length + 1) ?_
  refine (fun key => key l [] _ rfl rfl rfl : (∀ (rest done : List ByteArray) (j : Int), l = done ++ rest → j = done.length → l.any (· == s) = rest.any (· == s) →
    WR2 _ _ _ _ _ (rest.length + 1) [(0, lst strow l), (1, str s), (5, int .i64 j)] []) → _) ?_
  intro rest
  induction rest with
  | nil =>
    intro done j hl hj he
    have hlen : l.length = done.length := by subst hl; simp
    refine wR (gI ?_)
    refine ST wz ?_ <;> (repeat' (first | exact Wl.mk | refine wy1 ?_ ?_)) <;> repeat (intro hb; have hx := wy5 hb; clear hx)
    exact ⟨by rw [he]; rfl, rfl⟩
  | cons x rest ih =>
    intro done j hl hj he
    have hlen : l.length = done.length + (rest.length + 1) := by subst hl; simp
    refine wR (gI ?_)
    refine ST wz ?_ <;> (repeat' (first | exact Wl.mk | refine wy1 ?_ ?_)) <;> repeat (intro hb; have hx := wy5 hb; clear hx)
    · exact ⟨by rw [he, List.any_cons, hb]; rfl, rfl⟩
    · refine rE (ih (done ++ [x]) _ ?_ ?_ ?_)
      · simp [hl]
      · rw [wrap_ok (by omega) (by omega)]; simp [hj]
      · rw [he, List.any_cons, hb]; rfl
mutual
def Ex.eqb : Ex → Ex → Bool
  | .mk k o n u l, .mk k' o' n' u' l' => k == k' && (o == o' && (n == n' && (u == u' && Ex.eqbs l l')))
def Ex.eqbs : List Ex → List Ex → Bool
  | [], [] => true
  | x :: l, y :: m => Ex.eqb x y && Ex.eqbs l m
  | [], _ :: _ => false
  | _ :: _, [] => false
end
theorem Ex.eqbs_len : ∀ {l m : List Ex}, l.length ≠ m.length → Ex.eqbs l m = false
  | [], [], h => absurd rfl h
  | [], _ :: _, _ => rfl
  | _ :: _, [], _ => rfl
  | x :: l, y :: m, h => by simp only [Ex.eqbs]; rw [Ex.eqbs_len (by simpa using h)]; simp
end Go.Proofs.YtjjhckmnnaafkaaGreatDoor
namespace Go.Proofs.YtjjhckmnnaafkaaGreatDoor
open Go Go.Am Go.Proofs
attribute [local irreducible] W WL DL WO RoundEnd
set_option maxRecDepth 10000
set_option maxHeartbeats 4000000
def Act.eqb (a b : Act) : Bool := a.kind == b.kind && a.data == b.data
def Rule.eqb (r s : Rule) : Bool := r.call == s.call && (pw (· == ·) r.params s.params && Ex.eqbs r.cond s.cond)
def Part.eqb (p q : Part) : Bool := p.use == q.use && (p.act.eqb q.act && pw Rule.eqb p.rules q.rules)
def Rule.ok (r : Rule) : Prop := r.params.length * 16 ≤ 2 ^ 47 ∧ r.cond.length * 72 ≤ 2 ^ 47 ∧ Ex.oks r.cond
def Part.ok (p : Part) : Prop := p.rules.length * 64 ≤ 2 ^ 47 ∧ ∀ r ∈ p.rules, r.ok
def Part.cells (x : Part) : List Cell := [.d (.sc (.string x.use)), .d (.sc (.int .i64 x.act.kind)), .d (.sc (.int .i64 x.act.data)), .d (.list (x.rules.map Rule.row))]
def Rule.cells (x : Rule) : List Cell := [.d (.sc (.string x.call)), .d (.list (x.params.map strow)), .d (.list (x.cond.map Ex.row))]
end Go.Proofs.YtjjhckmnnaafkaaGreatDoor
namespace Go.Proofs.YtjjhckmnnaafkaaGreatDoor
open Go Go.Am Go.Proofs
attribute [local irreducible] W WL DL WO RoundEnd
set_option maxRecDepth 10000
set_option maxHeartbeats 4000000
/-! the document's functions, by the same pure words -/
theorem letterD (b : UInt8) : Comp Tryz.prog 76 [int .u8 b.toNat] (bool (letterF b)) := by
  refine Spec.body (C := cx [] 21) fits (fn := Tryz.f76) Tryz.func76 rfl (by decide) (by decide) (gI ?_)
  refine ST wz ?_ <;> (repeat' (first | exact Wl.mk | refine wy1 ?_ ?_)) <;> repeat (intro hb; have hx := wy5 hb; clear hx)
  all_goals (refine ⟨?_, rfl⟩)
  all_goals (refine congrArg Am.bool ?_)
  all_goals (simp only [beq_iff_eq, beq_eq_false_iff_ne, decide_eq_true_eq, decide_eq_false_iff_not, ge_iff_le] at *)
  all_goals (simp [letterF]; omega)
theorem digitD (b : UInt8) : Comp Tryz.prog 77 [int .u8 b.toNat] (bool (digitF b)) := by
  refine Spec.body (C := cx [] 9) fits (fn := Tryz.f77) Tryz.func77 rfl (by decide) (by decide) (gI ?_)
  refine ST wz ?_ <;> (repeat' (first | exact Wl.mk | refine wy1 ?_ ?_)) <;> repeat (intro hb; have hx := wy5 hb; clear hx)
  all_goals (refine ⟨?_, rfl⟩)
  all_goals (refine congrArg Am.bool ?_)
  all_goals (simp only [beq_iff_eq, beq_eq_false_iff_ne, decide_eq_true_eq, decide_eq_false_iff_not, ge_iff_le] at *)
  all_goals (simp [digitF]; omega)
theorem runF_all (p : UInt8 → Bool) : ∀ (l : List UInt8) (n : Int), (runF p l n == n + (l.length : Int)) = l.all p
  | [], n => by simp [runF]
  | x :: r, n => by
    have ih := runF_all p r (n + 1)
    rw [runF, List.all_cons]
    cases h : p x with
    | true =>
      simp only [if_true, Bool.true_and]
      rw [← ih]
      congr 1
      simp only [List.length_cons]; omega
    | false =>
      simp only [Bool.false_eq_true, if_false, Bool.false_and]
      rw [Bool.eq_false_iff]
      intro hc
      rw [beq_iff_eq] at hc
      simp only [List.length_cons] at hc
      omega
theorem any_flip (l : List ByteArray) (s : ByteArray) : l.any (· == s) = l.any (s == ·) := by
  congr 1; funext x
  rw [ba_beq, ba_beq]
  by_cases h : x = s
  · simp [h]
  · rw [decide_eq_false h, decide_eq_false (fun e => h e.symm)]
theorem nameD (s : ByteArray) (hs : s.size < 2 ^ 60) : Comp Tryz.prog 42 [str s] (bool (nameF s)) := by
  have hsz : s.size = s.data.toList.length := rfl
  generalize hfb : nameF s = fb
  cases hd : s.data.toList with
  | nil =>
    have he : s = ⟨#[]⟩ := by
      obtain ⟨⟨l⟩⟩ := s
      simp at hd; subst hd; rfl
    subst he
    refine Spec.body (C := cx [] 34) fits (fn := Tryz.f42) Tryz.func42 rfl (by decide) (by decide) (gI ?_)
    refine ST wz ?_ <;> (repeat' (first | exact Wl.mk | refine wy1 ?_ ?_)) <;> repeat (intro hb; have hx := wy5 hb; clear hx)
    exact ⟨by rw [← hfb]; rfl, rfl⟩
  | cons b r =>
    have c1 := letterD b
    have h0 : s.data.toList[(0 : Int).toNat]? = some b := by rw [hd]; rfl
    have hne : s ≠ ⟨#[]⟩ := by rintro rfl; simp at hd
    have bne : (s == (⟨#[]⟩ : ByteArray)) = false := by rw [ba_beq]; simp [hne]
    have hw : nameF s = ((letterF b && s.data.toList.all innerF) && !keyW.any (s == ·)) := by
      have := runF_all innerF s.data.toList 0
      rw [nameF, ← this]
      congr 1
      simp only [wordF, hd]
      congr 2
      simp
    rw [hw] at hfb
    refine Spec.body (C := cx [] 34) fits (fn := Tryz.f42) Tryz.func42 rfl (by decide) (by decide) (gI ?_)
    repeat' (first | ((first | refine C_r ?_ | refine C0_r ?_ | refine O_r ?_ | refine R_r ?_); (conv => whnf); first | (refine ⟨fun hb => ?_, fun hb => ?_⟩ <;> try exact no_way) | refine A_o ?_ | refine B_o ?_ | refine C_o ?_ | refine R_o ?_ | refine fR ?_ | refine fRk ?_ | refine F_o ?_) | refine B_l (c1) (fun h1 => ?_) fun h1 => ?_ | refine SA_l ?_ | refine V_l ?_ | refine L_l ?_ | refine Q_l ?_ | refine X_l ?_ | refine Xa_l ?_ | refine Xs_l ?_ | refine K_l ?_ | refine Ka_l ?_ | refine Lk_l ?_ | refine Up_l ?_ | refine Del_l ?_ | refine St_l ?_ | refine LU_l ?_ | refine Xw_l ?_ | refine Le_l ?_ | refine Se_l ?_ | refine M_l ?_ | refine A_l ?_ | refine A0_l ?_ | refine A1_l ?_ | refine Mk_l ?_ | refine Kz_l ?_ | refine W_l ?_ | fail)
    rotate_left
    · exact ⟨by rw [← hfb, h1]; rfl, rfl⟩
    rw [h1, Bool.true_and] at hfb
    refine wLoop [0, 3] 0 (s.data.toList.length + 1) ?_
    refine (fun key => key s.data.toList [] _ rfl rfl hfb.symm :
      (∀ (rest done : List UInt8) (j : Int), s.data.toList = done ++ rest → j = done.length → fb = (rest.all innerF && !keyW.any (s == ·)) →
      WR2 _ _ _ _ _ (rest.length + 1) [(0, str s), (3, int .i64 j)] []) → _) ?_
    intro rest
    induction rest with
    | nil =>
      intro done j g1 hj hr
      have hlen : s.data.toList.length = done.length := by rw [g1]; simp
      have c3 := inR keyW s (by decide)
      rw [any_flip] at c3
      refine wR (gI ?_)
      repeat' (first | ((first | refine C_r ?_ | refine C0_r ?_ | refine O_r ?_ | refine R_r ?_); (conv => whnf); first | (refine ⟨fun hb => ?_, fun hb => ?_⟩ <;> try exact no_way) | refine A_o ?_ | refine B_o ?_ | refine C_o ?_ | refine R_o ?_ | refine fR ?_ | refine fRk ?_ | refine F_o ?_) | refine B_l (c3) (fun h3 => ?_) fun h3 => ?_ | refine SA_l ?_ | refine V_l ?_ | refine L_l ?_ | refine Q_l ?_ | refine X_l ?_ | refine Xa_l ?_ | refine Xs_l ?_ | refine K_l ?_ | refine Ka_l ?_ | refine Lk_l ?_ | refine Up_l ?_ | refine Del_l ?_ | refine St_l ?_ | refine LU_l ?_ | refine Xw_l ?_ | refine Le_l ?_ | refine Se_l ?_ | refine M_l ?_ | refine A_l ?_ | refine A0_l ?_ | refine A1_l ?_ | refine Mk_l ?_ | refine Kz_l ?_ | refine W_l ?_ | fail)
      all_goals exact ⟨by rw [hr, h3]; rfl, rfl⟩
    | cons x rest ih =>
      intro done j g1 hj hr
      have hlen : s.data.toList.length = done.length + (rest.length + 1) := by rw [g1]; simp
      have c4 := letterD x
      have c5 := digitD x
      have hin : innerF x = (letterF x || digitF x) := rfl
      rw [List.all_cons, hin] at hr
      refine wR (gI ?_)
      repeat' (first | ((first | refine C_r ?_ | refine C0_r ?_ | refine O_r ?_ | refine R_r ?_); (conv => whnf); first | (refine ⟨fun hb => ?_, fun hb => ?_⟩ <;> try exact no_way) | refine A_o ?_ | refine B_o ?_ | refine C_o ?_ | refine R_o ?_ | refine fR ?_ | refine fRk ?_ | refine F_o ?_) | refine B_l (c4) (fun h4 => ?_) fun h4 => ?_ | refine B_l (c5) (fun h5 => ?_) fun h5 => ?_ | refine SA_l ?_ | refine V_l ?_ | refine L_l ?_ | refine Q_l ?_ | refine X_l ?_ | refine Xa_l ?_ | refine Xs_l ?_ | refine K_l ?_ | refine Ka_l ?_ | refine Lk_l ?_ | refine Up_l ?_ | refine Del_l ?_ | refine St_l ?_ | refine LU_l ?_ | refine Xw_l ?_ | refine Le_l ?_ | refine Se_l ?_ | refine M_l ?_ | refine A_l ?_ | refine A0_l ?_ | refine A1_l ?_ | refine Mk_l ?_ | refine Kz_l ?_ | refine W_l ?_ | fail)
      · refine rE (ih (done ++ [x]) _ (by rw [g1]; simp) ?_ ?_)
        · rw [wrap_ok (by omega) (by omega)]; simp [hj]
        · rw [hr, h4, Bool.true_or, Bool.true_and]
      · refine rE (ih (done ++ [x]) _ (by rw [g1]; simp) ?_ ?_)
        · rw [wrap_ok (by omega) (by omega)]; simp [hj]
        · rw [hr, h4, h5, Bool.false_or, Bool.true_and]
      · exact ⟨by rw [hr, h4, h5]; rfl, rfl⟩
theorem primD (e : Ex) (hn : e.name.size < 2 ^ 60) : Comp Tryz.prog 79 [.agg (e.row.map .d)] (bool (oneF e)) := by
  have c1 := nameD e.name hn
  generalize hfb : oneF e = fb
  obtain ⟨kd, o, n, u, l⟩ := e
  have el : Ex.rows l = l.map Ex.row := Ex.rows_eq l
  simp only [Ex.row, el, List.map_cons, List.map_nil]
  by_cases h7 : kd = 7
  · subst h7
    refine Spec.body (C := cx [] 42) fits (fn := Tryz.f79) Tryz.func79 rfl (by decide) (by decide) (gI ?_)
    repeat' (first | ((first | refine C_r ?_ | refine C0_r ?_ | refine O_r ?_ | refine R_r ?_); (conv => whnf); first | (refine ⟨fun hb => ?_, fun hb => ?_⟩ <;> try exact no_way) | refine A_o ?_ | refine B_o ?_ | refine C_o ?_ | refine R_o ?_ | refine fR ?_ | refine fRk ?_ | refine F_o ?_) | refine B_l (c1) (fun h1 => ?_) fun h1 => ?_ | refine SA_l ?_ | refine V_l ?_ | refine L_l ?_ | refine Q_l ?_ | refine X_l ?_ | refine Xa_l ?_ | refine Xs_l ?_ | refine K_l ?_ | refine Ka_l ?_ | refine Lk_l ?_ | refine Up_l ?_ | refine Del_l ?_ | refine St_l ?_ | refine LU_l ?_ | refine Xw_l ?_ | refine Le_l ?_ | refine Se_l ?_ | refine M_l ?_ | refine A_l ?_ | refine A0_l ?_ | refine A1_l ?_ | refine Mk_l ?_ | refine Kz_l ?_ | refine W_l ?_ | fail)
    all_goals (refine ⟨?_, rfl⟩; refine congrArg Am.bool ?_; rw [← hfb]; clear c1 el hfb)
    all_goals (rcases l with _ | ⟨x, _ | ⟨y, _ | ⟨z, l⟩⟩⟩ <;> simp_all [oneF, whatF, twoF, Ex.name] <;> first | omega | (by_cases hu : u = 0 <;> simp [hu]))
  · by_cases h5 : kd = 5
    · subst h5
      refine Spec.body (C := cx [] 42) fits (fn := Tryz.f79) Tryz.func79 rfl (by decide) (by decide) (gI ?_)
      repeat' (first | ((first | refine C_r ?_ | refine C0_r ?_ | refine O_r ?_ | refine R_r ?_); (conv => whnf); first | (refine ⟨fun hb => ?_, fun hb => ?_⟩ <;> try exact no_way) | refine A_o ?_ | refine B_o ?_ | refine C_o ?_ | refine R_o ?_ | refine fR ?_ | refine fRk ?_ | refine F_o ?_) | refine B_l (c1) (fun h1 => ?_) fun h1 => ?_ | refine SA_l ?_ | refine V_l ?_ | refine L_l ?_ | refine Q_l ?_ | refine X_l ?_ | refine Xa_l ?_ | refine Xs_l ?_ | refine K_l ?_ | refine Ka_l ?_ | refine Lk_l ?_ | refine Up_l ?_ | refine Del_l ?_ | refine St_l ?_ | refine LU_l ?_ | refine Xw_l ?_ | refine Le_l ?_ | refine Se_l ?_ | refine M_l ?_ | refine A_l ?_ | refine A0_l ?_ | refine A1_l ?_ | refine Mk_l ?_ | refine Kz_l ?_ | refine W_l ?_ | fail)
      all_goals (refine ⟨?_, rfl⟩; refine congrArg Am.bool ?_; rw [← hfb]; clear c1 el hfb)
      all_goals (rcases l with _ | ⟨x, _ | ⟨y, _ | ⟨z, l⟩⟩⟩ <;> simp_all [oneF, whatF, twoF, Ex.name] <;> first | omega | (by_cases hu : u = 0 <;> simp [hu]))
    · have b7 : (kd == 7) = false := by simp [h7]
      have b5 : (kd == 5) = false := by simp [h5]
      have hf : fb = false := by
        rw [← hfb, oneF]
        have := whatF_in (.mk kd o n u l)
        split
        · rename_i hw; rw [hw] at this; exact absurd this h7
        · rename_i hw; rw [hw] at this; exact absurd this h5
        · rfl
      refine Spec.body (C := cx [] 42) fits (fn := Tryz.f79) Tryz.func79 rfl (by decide) (by decide) (gI ?_)
      repeat' (first | ((first | refine C_r ?_ | refine C0_r ?_ | refine O_r ?_ | refine R_r ?_); (conv => whnf); first | (refine ⟨fun hb => ?_, fun hb => ?_⟩ <;> try exact no_way) | refine A_o ?_ | refine B_o ?_ | refine C_o ?_ | refine R_o ?_ | refine fR ?_ | refine fRk ?_ | refine F_o ?_) | refine B_l (c1) (fun h1 => ?_) fun h1 => ?_ | refine SA_l ?_ | refine V_l ?_ | refine L_l ?_ | refine Q_l ?_ | refine X_l ?_ | refine Xa_l ?_ | refine Xs_l ?_ | refine K_l ?_ | refine Ka_l ?_ | refine Lk_l ?_ | refine Up_l ?_ | refine Del_l ?_ | refine St_l ?_ | refine LU_l ?_ | refine Xw_l ?_ | refine Le_l ?_ | refine Se_l ?_ | refine M_l ?_ | refine A_l ?_ | refine A0_l ?_ | refine A1_l ?_ | refine Mk_l ?_ | refine Kz_l ?_ | refine W_l ?_ | fail)
      all_goals exact ⟨by rw [hf]; rfl, rfl⟩
end Go.Proofs.YtjjhckmnnaafkaaGreatDoor
namespace Go.Proofs.YtjjhckmnnaafkaaGreatDoor
open Go Go.Am Go.Proofs
attribute [local irreducible] W WL DL WO RoundEnd
set_option maxRecDepth 10000
set_option maxHeartbeats 4000000
theorem numberD : ∀ (n : Nat) (e : Ex), e.size < n → e.nok → Comp Tryz.prog 43 [.agg (e.row.map .d)] (bool (numF n e)) := by
  intro n
  induction n with
  | zero => intro e h; omega
  | succ n IH =>
  intro e hs hn
  have c1 := primD e (by obtain ⟨_, _, nm, _, _⟩ := e; exact hn.1)
  generalize hfb : numF (n + 1) e = fb
  rw [numF] at hfb
  obtain ⟨kd, o, nm, u, l⟩ := e
  by_cases h8 : kd = 8
  · subst h8
    rw [if_pos (show (Ex.mk 8 o nm u l).kind = 8 from rfl)] at hfb
    rcases l with _ | ⟨x, _ | ⟨y, _ | ⟨z, l⟩⟩⟩
    · have hf : fb = false := by rw [← hfb]; rfl
      refine Spec.body (C := cx [] 41) fits (fn := Tryz.f43) Tryz.func43 rfl (by decide) (by decide) (gI ?_)
      refine ST wz ?_ <;> (repeat' (first | exact Wl.mk | refine wy1 ?_ ?_)) <;> repeat (intro hb; have hx := wy5 hb; clear hx)
      all_goals exact ⟨by rw [hf]; rfl, rfl⟩
    · have hf : fb = false := by rw [← hfb]; rfl
      refine Spec.body (C := cx [] 41) fits (fn := Tryz.f43) Tryz.func43 rfl (by decide) (by decide) (gI ?_)
      refine ST wz ?_ <;> (repeat' (first | exact Wl.mk | refine wy1 ?_ ?_)) <;> repeat (intro hb; have hx := wy5 hb; clear hx)
      all_goals exact ⟨by rw [hf]; rfl, rfl⟩
    · have c2 := IH x (by simp only [Ex.size, Ex.sizes] at hs; omega) hn.2.1
      have c3 := primD y (by have := hn.2; obtain ⟨_, _, ym, _, _⟩ := y; exact this.2.1.1)
      have hw : whatF (.mk 8 o nm u [x, y]) = (if (o == (⟨#[]⟩ : ByteArray) && u == 0) && nm == (⟨#[]⟩ : ByteArray) then .pr x y else .none) := by
        simp [whatF, twoF]
      rw [hw] at hfb
      obtain ⟨k1, o1, n1, u1, l1⟩ := x
      obtain ⟨k2, o2, n2, u2, l2⟩ := y
      refine Spec.body (C := cx [] 41) fits (fn := Tryz.f43) Tryz.func43 rfl (by decide) (by decide) (gI ?_)
      repeat' (first | ((first | refine C_r ?_ | refine C0_r ?_ | refine O_r ?_ | refine R_r ?_); (conv => whnf); first | (refine ⟨fun hb => ?_, fun hb => ?_⟩ <;> try exact no_way) | refine A_o ?_ | refine B_o ?_ | refine C_o ?_ | refine R_o ?_ | refine fR ?_ | refine fRk ?_ | refine F_o ?_) | refine B_l (c2) (fun h2 => ?_) fun h2 => ?_ | refine B_l (c3) (fun h3 => ?_) fun h3 => ?_ | refine SA_l ?_ | refine V_l ?_ | refine L_l ?_ | refine Q_l ?_ | refine X_l ?_ | refine Xa_l ?_ | refine Xs_l ?_ | refine K_l ?_ | refine Ka_l ?_ | refine Lk_l ?_ | refine Up_l ?_ | refine Del_l ?_ | refine St_l ?_ | refine LU_l ?_ | refine Xw_l ?_ | refine Le_l ?_ | refine Se_l ?_ | refine M_l ?_ | refine A_l ?_ | refine A0_l ?_ | refine A1_l ?_ | refine Mk_l ?_ | refine Kz_l ?_ | refine W_l ?_ | fail)
      · rw [if_pos (by simp only [show (o == (⟨#[]⟩ : ByteArray)) = true by assumption, show (nm == (⟨#[]⟩ : ByteArray)) = true by assumption, show (u == 0) = true by assumption]; rfl)] at hfb
        exact ⟨by rw [← hfb]; simp only [h2, h3]; rfl, rfl⟩
      · rw [if_pos (by simp only [show (o == (⟨#[]⟩ : ByteArray)) = true by assumption, show (nm == (⟨#[]⟩ : ByteArray)) = true by assumption, show (u == 0) = true by assumption]; rfl)] at hfb
        exact ⟨by rw [← hfb]; simp only [h2, h3]; rfl, rfl⟩
      · rw [if_pos (by simp only [show (o == (⟨#[]⟩ : ByteArray)) = true by assumption, show (nm == (⟨#[]⟩ : ByteArray)) = true by assumption, show (u == 0) = true by assumption]; rfl)] at hfb
        exact ⟨by rw [← hfb]; simp only [h2, Bool.and_false]; rfl, rfl⟩
      · exfalso; simp [Ex.rows] at hb
      · rw [if_neg (by simp [hb])] at hfb
        exact ⟨by rw [← hfb]; rfl, rfl⟩
      · rw [if_neg (by simp [hb])] at hfb
        exact ⟨by rw [← hfb]; rfl, rfl⟩
      · rw [if_neg (by simp [hb])] at hfb
        exact ⟨by rw [← hfb]; rfl, rfl⟩
    · have hf : fb = false := by rw [← hfb]; rfl
      have el : Ex.rows (x :: y :: z :: l) = (x :: y :: z :: l).map Ex.row := Ex.rows_eq _
      simp only [Ex.row, el, List.map_cons, List.map_nil]
      refine Spec.body (C := cx [] 41) fits (fn := Tryz.f43) Tryz.func43 rfl (by decide) (by decide) (gI ?_)
      refine ST wz ?_ <;> (repeat' (first | exact Wl.mk | refine wy1 ?_ ?_)) <;> repeat (intro hb; have hx := wy5 hb; clear hx)
      all_goals exact ⟨by rw [hf]; rfl, rfl⟩
  · have b8 : (!(kd == 8)) = true := by simp [h8]
    rw [if_neg (show ¬ (Ex.mk kd o nm u l).kind = 8 from h8)] at hfb
    refine Spec.body (C := cx [] 41) fits (fn := Tryz.f43) Tryz.func43 rfl (by decide) (by decide) (gI ?_)
    repeat' (first | ((first | refine C_r ?_ | refine C0_r ?_ | refine O_r ?_ | refine R_r ?_); (conv => whnf); first | (refine ⟨fun hb => ?_, fun hb => ?_⟩ <;> try exact no_way) | refine A_o ?_ | refine B_o ?_ | refine C_o ?_ | refine R_o ?_ | refine fR ?_ | refine fRk ?_ | refine F_o ?_) | refine B_l (c1) (fun h1 => ?_) fun h1 => ?_ | refine SA_l ?_ | refine V_l ?_ | refine L_l ?_ | refine Q_l ?_ | refine X_l ?_ | refine Xa_l ?_ | refine Xs_l ?_ | refine K_l ?_ | refine Ka_l ?_ | refine Lk_l ?_ | refine Up_l ?_ | refine Del_l ?_ | refine St_l ?_ | refine LU_l ?_ | refine Xw_l ?_ | refine Le_l ?_ | refine Se_l ?_ | refine M_l ?_ | refine A_l ?_ | refine A0_l ?_ | refine A1_l ?_ | refine Mk_l ?_ | refine Kz_l ?_ | refine W_l ?_ | fail)
    all_goals exact ⟨by rw [← hfb, h1]; rfl, rfl⟩
def opF (s : ByteArray) : Int :=
  if s = ⟨#[61, 61]⟩ then 1 else if s = ⟨#[33, 61]⟩ then 2 else if s = ⟨#[60]⟩ then 3 else if s = ⟨#[60, 61]⟩ then 4 else if s = ⟨#[62]⟩ then 5 else if s = ⟨#[62, 61]⟩ then 6 else 0
theorem opD (s : ByteArray) : Comp Tryz.prog 83 [str s] (int .i64 (opF s)) := by
  by_cases h1 : s = ⟨#[61, 61]⟩
  · subst h1; refine Spec.body (C := cx [] 16) fits (fn := Tryz.f83) Tryz.func83 rfl (by decide) (by decide) (gI ?_)
    refine ST wz ?_ <;> (repeat' (first | exact Wl.mk | refine wy1 ?_ ?_)) <;> repeat (intro hb; have hx := wy5 hb; clear hx)
    exact ⟨rfl, rfl⟩
  by_cases h2 : s = ⟨#[33, 61]⟩
  · subst h2; refine Spec.body (C := cx [] 16) fits (fn := Tryz.f83) Tryz.func83 rfl (by decide) (by decide) (gI ?_)
    refine ST wz ?_ <;> (repeat' (first | exact Wl.mk | refine wy1 ?_ ?_)) <;> repeat (intro hb; have hx := wy5 hb; clear hx)
    exact ⟨rfl, rfl⟩
  by_cases h3 : s = ⟨#[60]⟩
  · subst h3; refine Spec.body (C := cx [] 16) fits (fn := Tryz.f83) Tryz.func83 rfl (by decide) (by decide) (gI ?_)
    refine ST wz ?_ <;> (repeat' (first | exact Wl.mk | refine wy1 ?_ ?_)) <;> repeat (intro hb; have hx := wy5 hb; clear hx)
    exact ⟨rfl, rfl⟩
  by_cases h4 : s = ⟨#[60, 61]⟩
  · subst h4; refine Spec.body (C := cx [] 16) fits (fn := Tryz.f83) Tryz.func83 rfl (by decide) (by decide) (gI ?_)
    refine ST wz ?_ <;> (repeat' (first | exact Wl.mk | refine wy1 ?_ ?_)) <;> repeat (intro hb; have hx := wy5 hb; clear hx)
    exact ⟨rfl, rfl⟩
  by_cases h5 : s = ⟨#[62]⟩
  · subst h5; refine Spec.body (C := cx [] 16) fits (fn := Tryz.f83) Tryz.func83 rfl (by decide) (by decide) (gI ?_)
    refine ST wz ?_ <;> (repeat' (first | exact Wl.mk | refine wy1 ?_ ?_)) <;> repeat (intro hb; have hx := wy5 hb; clear hx)
    exact ⟨rfl, rfl⟩
  by_cases h6 : s = ⟨#[62, 61]⟩
  · subst h6; refine Spec.body (C := cx [] 16) fits (fn := Tryz.f83) Tryz.func83 rfl (by decide) (by decide) (gI ?_)
    refine ST wz ?_ <;> (repeat' (first | exact Wl.mk | refine wy1 ?_ ?_)) <;> repeat (intro hb; have hx := wy5 hb; clear hx)
    exact ⟨rfl, rfl⟩
  have b1 : (s == (⟨#[61, 61]⟩ : ByteArray)) = false := by rw [ba_beq]; simp [h1]
  have b2 : (s == (⟨#[33, 61]⟩ : ByteArray)) = false := by rw [ba_beq]; simp [h2]
  have b3 : (s == (⟨#[60]⟩ : ByteArray)) = false := by rw [ba_beq]; simp [h3]
  have b4 : (s == (⟨#[60, 61]⟩ : ByteArray)) = false := by rw [ba_beq]; simp [h4]
  have b5 : (s == (⟨#[62]⟩ : ByteArray)) = false := by rw [ba_beq]; simp [h5]
  have b6 : (s == (⟨#[62, 61]⟩ : ByteArray)) = false := by rw [ba_beq]; simp [h6]
  have e : opF s = 0 := by simp [opF, h1, h2, h3, h4, h5, h6]
  rw [e]
  refine Spec.body (C := cx [] 16) fits (fn := Tryz.f83) Tryz.func83 rfl (by decide) (by decide) (gI ?_)
  refine ST wz ?_ <;> (repeat' (first | exact Wl.mk | refine wy1 ?_ ?_)) <;> repeat (intro hb; have hx := wy5 hb; clear hx)
  exact ⟨rfl, rfl⟩
theorem opF_any (s : ByteArray) : (opF s == 0) = !cmpOps.any (s == ·) := by
  simp only [cmpOps, List.any_cons, List.any_nil, Bool.or_false, ba_beq]
  by_cases h1 : s = ⟨#[61, 61]⟩
  · subst h1; rfl
  by_cases h2 : s = ⟨#[33, 61]⟩
  · subst h2; rfl
  by_cases h3 : s = ⟨#[60]⟩
  · subst h3; rfl
  by_cases h4 : s = ⟨#[60, 61]⟩
  · subst h4; rfl
  by_cases h5 : s = ⟨#[62]⟩
  · subst h5; rfl
  by_cases h6 : s = ⟨#[62, 61]⟩
  · subst h6; rfl
  simp [opF, h1, h2, h3, h4, h5, h6]
theorem depthD : ∀ (n : Nat) (e : Ex), e.size < n → n < 2 ^ 60 → Comp Tryz.prog 81 [.agg (e.row.map .d)] (int .i64 (depthF e)) := by
  intro n
  induction n with
  | zero => intro e h; omega
  | succ n IH =>
  intro e hs hn
  obtain ⟨kd, o, nm, u, l⟩ := e
  have el : Ex.rows l = l.map Ex.row := Ex.rows_eq l
  simp only [Ex.row, el, List.map_cons, List.map_nil]
  rw [Ex.size] at hs
  have hlen0 : l.length ≤ Ex.sizes l := by
    clear el hs
    induction l with
    | nil => simp [Ex.sizes]
    | cons x r ih => obtain ⟨_, _, _, _, _⟩ := x; simp only [Ex.sizes, Ex.size, List.length_cons]; omega
  generalize hfb : depthF (.mk kd o nm u l) = fb
  rw [depthF] at hfb
  refine Spec.body (C := cx [] 25) fits (fn := Tryz.f81) Tryz.func81 rfl (by decide) (by decide) (gI ?_)
  refine ST wz ?_ <;> (repeat' (first | exact Wl.mk | refine wy1 ?_ ?_)) <;> repeat (intro hb; have hx := wy5 hb; clear hx)
  refine wLoop [1, 3, 4] 1 (l.length + 1) ?_
  refine (fun key => key l [] _ 0 rfl rfl rfl (by omega) (by omega) :
    (∀ (rest done : List Ex) (j m : Int), l = done ++ rest → j = done.length → depthsF l 0 = depthsF rest m → 0 ≤ m → m ≤ Ex.sizes l →
    WR2 _ _ _ _ _ (rest.length + 1) [(1, .one (.ptr 0 0)), (3, int .i64 m), (4, int .i64 j)] [.var [.d (.sc (.int .i64 kd)), .d (.sc (.string o)), .d (.sc (.string nm)), .d (.sc (.int .u64 u)), .d (.list (l.map Ex.row))]]) → _) ?_
  intro rest
  induction rest with
  | nil =>
    intro done j m h1 hj hr hm hm2
    have hlen : l.length = done.length := by rw [h1]; simp
    refine wR (gI ?_)
    refine ST wz ?_ <;> (repeat' (first | exact Wl.mk | refine wy1 ?_ ?_)) <;> repeat (intro hb; have hx := wy5 hb; clear hx)
    exact ⟨by rw [wrap_ok (by omega) (by omega), ← hfb, hr, depthsF]; rfl, rfl⟩
  | cons x rest ih =>
    intro done j m h1 hj hr hm hm2
    have hlen : l.length = done.length + (rest.length + 1) := by rw [h1]; simp
    have hxs := Ex.size_mem (l := l) (x := x) (by rw [h1]; simp)
    have hc := IH x (by omega) (by omega)
    have hd := depthF_le x
    rw [depthsF] at hr
    obtain ⟨xk, xo, xn, xu, xl⟩ := x
    refine wR (gI ?_)
    refine ST (wc hc wz) ?_ <;> (repeat' (first | exact Wl.mk | refine wy1 ?_ ?_)) <;> repeat (intro hb; have hx := wy5 hb; clear hx)
    · have hgt : depthF (Ex.mk xk xo xn xu xl) > m := by simpa using hb
      have e : max m (depthF (Ex.mk xk xo xn xu xl)) = depthF (Ex.mk xk xo xn xu xl) := by omega
      refine rE (ih (done ++ [Ex.mk xk xo xn xu xl]) _ _ (by rw [h1]; simp) ?_ (by rw [hr, e]) (by omega) (by omega))
      rw [wrap_ok (by omega) (by omega)]; simp [hj]
    · have hgt : ¬ depthF (Ex.mk xk xo xn xu xl) > m := by simpa using hb
      have e : max m (depthF (Ex.mk xk xo xn xu xl)) = m := by omega
      refine rE (ih (done ++ [Ex.mk xk xo xn xu xl]) _ _ (by rw [h1]; simp) ?_ (by rw [hr, e]) (by omega) (by omega))
      rw [wrap_ok (by omega) (by omega)]; simp [hj]
end Go.Proofs.YtjjhckmnnaafkaaGreatDoor
namespace Go.Proofs.YtjjhckmnnaafkaaGreatDoor
open Go Go.Am Go.Proofs
attribute [local irreducible] W WL DL WO RoundEnd
set_option maxRecDepth 10000
set_option maxHeartbeats 4000000
theorem cloneS (l : List ByteArray) (hl : l.length * 16 ≤ 2 ^ 47) : Comp Tryz.prog 70 [lst strow l] (lst strow l) := by
  refine Spec.body (C := cx [(5, false)] 8) fits (fn := Tryz.f70) Tryz.func70 rfl (by decide) (by decide) (gI ?_)
  repeat' (first | ((first | refine C_r ?_ | refine C0_r ?_ | refine O_r ?_ | refine R_r ?_); (conv => whnf); first | (refine ⟨fun hb => ?_, fun hb => ?_⟩ <;> try exact no_way) | refine A_o ?_ | refine B_o ?_ | refine C_o ?_ | refine R_o ?_ | refine fR ?_ | refine fRk ?_ | refine F_o ?_) | refine fun k => lN fits (fun h0 => oW ?_ _) (oW ?_ _) | refine fun k => lA fits (rows := []) (oW ?_ _) (hsm := by simp only [most, List.length_map, List.length_nil]; omega) | refine SA_l ?_ | refine V_l ?_ | refine L_l ?_ | refine Q_l ?_ | refine X_l ?_ | refine Xa_l ?_ | refine Xs_l ?_ | refine K_l ?_ | refine Ka_l ?_ | refine Lk_l ?_ | refine Up_l ?_ | refine Del_l ?_ | refine St_l ?_ | refine LU_l ?_ | refine Xw_l ?_ | refine Le_l ?_ | refine Se_l ?_ | refine M_l ?_ | refine A_l ?_ | refine A0_l ?_ | refine A1_l ?_ | refine Mk_l ?_ | refine Kz_l ?_ | refine W_l ?_ | fail)
  · exact ⟨by simp only [lst, h0], rfl⟩
  · exact ⟨rfl, rfl⟩
theorem copiesR : ∀ (n : Nat) (l : List Ex), Ex.sizes l < n → l.length * 72 ≤ 2 ^ 47 → Ex.oks l → Comp Tryz.prog 71 [lst Ex.row l] (lst Ex.row l) := by
  intro n
  induction n with
  | zero => intro l h; omega
  | succ n IH =>
  intro l hn hl hok
  refine Spec.body (C := cx [(3, false)] 22) fits (fn := Tryz.f71) Tryz.func71 rfl (by decide) (by decide) (gI ?_)
  refine ST wz ?_ <;> (repeat' (first | exact Wl.mk | refine wy1 ?_ ?_)) <;> repeat (intro hb; have hx := wy5 hb; clear hx)
  refine wLoop [0, 3, 6, 7, 8] 1 (l.length + 1) ?_
  refine (fun key => key l [] _ rfl rfl : (∀ (rest done : List Ex) (j : Int), l = done ++ rest → j = done.length →
    WR2 _ _ _ _ _ (rest.length + 1) [(0, lst Ex.row l), (3, .one (.arr 0 0 (done.map Ex.row).length)), (6, lst Ex.row l), (7, int .i64 (l.map Ex.row).length), (8, int .i64 j)] [.arr 0 false 5 (done.map Ex.row)]) → _) ?_
  · intro rest
    induction rest with
    | nil =>
      intro done j hl1 hj
      have hlen : l.length = done.length := by subst hl1; simp
      refine wR (gI ?_)
      refine ST wz ?_ <;> (repeat' (first | exact Wl.mk | refine wy1 ?_ ?_)) <;> repeat (intro hb; have hx := wy5 hb; clear hx)
      refine ⟨?_, rfl⟩
      have : l = done := by simpa using hl1
      subst this; rfl
    | cons x rest ih =>
      intro done j hl1 hj
      have hlen : l.length = done.length + (rest.length + 1) := by subst hl1; simp
      have hx : x ∈ l := by subst hl1; simp
      have hsz := Ex.size_mem hx
      have hxo := Ex.oks_mem hok hx
      obtain ⟨kd, o, nm, u, ks⟩ := x
      have hc : Comp Tryz.prog 71 [.one (.d (.list (Ex.rows ks)))] (.one (.d (.list (Ex.rows ks)))) := by rw [Ex.rows_eq]; exact IH ks (by rw [Ex.size] at hsz; omega) hxo.1 hxo.2
      refine wR (gI ?_)
      refine ST (wc hc wz) ?_ <;> (repeat' (first | exact Wl.mk | refine wy1 ?_ ?_)) <;> repeat (intro hb; have hx := wy5 hb; clear hx)
      have g := ih (done ++ [Ex.mk kd o nm u ks]) (IntKind.wrap .i64 (j + 1)) (by simp [hl1]) (by rw [wrap_ok (by omega) (by omega)]; simp [hj])
      rw [List.map_append] at g
      exact rE g
/-- a rule of its own -/
theorem copyR (r : Rule) (hr : r.ok) : Comp Tryz.prog 38 [.agg (r.row.map .d)] (.agg (r.row.map .d)) := by
  obtain ⟨c, ps, q⟩ := r
  have h1 := cloneS ps hr.1
  have h2 := copiesR _ q (Nat.lt_succ_self _) hr.2.1 hr.2.2
  refine Spec.body (C := cx [] 12) fits (fn := Tryz.f38) Tryz.func38 rfl (by decide) (by decide) (gI ?_)
  refine ST (wc h1 (wc h2 wz)) ?_ <;> (repeat' (first | exact Wl.mk | refine wy1 ?_ ?_)) <;> repeat (intro hb; have hx := wy5 hb; clear hx)
  exact ⟨rfl, rfl⟩
end Go.Proofs.YtjjhckmnnaafkaaGreatDoor
namespace Go.Proofs.YtjjhckmnnaafkaaGreatDoor
open Go Go.Am Go.Proofs
attribute [local irreducible] W WL DL WO RoundEnd
set_option maxRecDepth 10000
set_option maxHeartbeats 4000000
abbrev MapE := List (Value × Am.FV)
/-- entries that are data -/
def pureE (E : MapE) : Prop := ∀ L, (E.all fun x => x.2.under L) = true
@[reducible] def flatSt (E1 E2 E3 : MapE) (out : List Part) : St :=
  [.map E1, .map E2, .map E3, .var [.map 0, .map 1, .map 2, .arr 4 0 (out.map Part.row).length], .arr 0 false 4 (out.map Part.row)]
theorem under6 {E1 E2 E3 : MapE} (h1 : pureE E1) (h2 : pureE E2) (h3 : pureE E3) {n ep ep' k : Nat} {m : Bool} {rows : List (List D)} :
    ([Ob.map E1, .map E2, .map E3, .var [.map 0, .map 1, .map 2, .arr 4 ep n], .arr ep' m k rows].all fun o => o.under (alive [Ob.map E1, .map E2, .map E3, .var [.map 0, .map 1, .map 2, .arr 4 ep n], .arr ep' m k rows])) = true := by
  simp only [List.all_cons, List.all_nil, Ob.under, h1 _, h2 _, h3 _, Bool.true_and, Bool.and_true]
  rfl
theorem under7 {E1 E2 E3 : MapE} (h1 : pureE E1) (h2 : pureE E2) (h3 : pureE E3) {n ep ep' k : Nat} {m : Bool} {rows : List (List D)} :
    ([Ob.map E1, .map E2, .map E3, .var [.map 0, .map 1, .map 2, .arr 4 ep n], .arr ep' m k rows].all fun o => o.under (Am.inR [0, 1, 2, 3, 4])) = true := by
  simp only [List.all_cons, List.all_nil, Ob.under, h1 _, h2 _, h3 _, Bool.true_and, Bool.and_true]
  rfl
def addE (out : List Part) : Int := if out.length > 500 then 9 else 0
theorem addR (E1 E2 E3 : MapE) (g1 : pureE E1) (g2 : pureE E2) (g3 : pureE E3) (out l : List Part) (h1 : out.length ≤ 600) (h2 : l.length ≤ 600) : Am.Spec Tryz.prog 68 [.one (.ptr 3 0), lst Part.row l] (flatSt E1 E2 E3 out)
    (fun x s => x = int .i64 (addE (out ++ l)) ∧ s = flatSt E1 E2 E3 (out ++ l)) := by
  refine Spec.body (C := cx [] 20) fits (fn := Tryz.f68) Tryz.func68 rfl (by decide) (by decide) (gI ?_)
  repeat' (first | refine fR ?_ (h6 := under6 g1 g2 g3) | ((first | refine C_r ?_ | refine C0_r ?_ | refine O_r ?_ | refine R_r ?_); (conv => whnf); first | (refine ⟨fun hb => ?_, fun hb => ?_⟩ <;> try exact no_way) | refine A_o ?_ | refine B_o ?_ | refine C_o ?_ | refine R_o ?_ | refine fR ?_ | refine fRk ?_ | refine F_o ?_) | refine SA_l ?_ | refine V_l ?_ | refine L_l ?_ | refine Q_l ?_ | refine X_l ?_ | refine Xa_l ?_ | refine Xs_l ?_ | refine K_l ?_ | refine Ka_l ?_ | refine Lk_l ?_ | refine Up_l ?_ | refine Del_l ?_ | refine St_l ?_ | refine LU_l ?_ | refine Xw_l ?_ | refine Le_l ?_ | refine Se_l ?_ | refine M_l ?_ | refine A_l ?_ | refine A0_l ?_ | refine A1_l ?_ | refine Mk_l ?_ | refine Kz_l ?_ | refine W_l ?_ | fail)
  · exact ⟨by rw [addE, if_pos (by simp at hb; simp; omega)]; rfl, by simp only [flatSt, List.map_append]⟩
  · exact ⟨by rw [addE, if_neg (by simp at hb; simp; omega)]; rfl, by simp only [flatSt, List.map_append]⟩
end Go.Proofs.YtjjhckmnnaafkaaGreatDoor
namespace Go.Proofs.YtjjhckmnnaafkaaGreatDoor
open Go Go.Am Go.Proofs
attribute [local irreducible] W WL DL WO RoundEnd
set_option maxRecDepth 10000
set_option maxHeartbeats 4000000
abbrev AL (α : Type) := List (ByteArray × α)
/-- what is kept while policies are put together -/
structure Fl where
  within : AL Unit
  known : AL (List Part)
  out : List Part
def encP (ps : List Part) (n : ByteArray) : Am.FV := .agg [.d (.sc (.string n)), .d (.list (ps.map Part.row))]
def entsM (l : AL (List Part)) : MapE := l.map fun p => (.string p.1, encP p.2 p.1)
def encW (_ : Unit) : Am.FV := .one (.d (.sc (.bool true)))
def encK (l : List Part) : Am.FV := .one (.d (.list (l.map Part.row)))
theorem pure_m (l : AL (List Part)) : pureE (entsM l) := by
  intro L; simp only [entsM, List.all_map, List.all_eq_true]; intro x _; rfl
theorem pure_w (l : AL Unit) : pureE (ents encW l) := by
  intro L; simp only [ents, List.all_map, List.all_eq_true]; intro x _; rfl
theorem pure_k (l : AL (List Part)) : pureE (ents encK l) := by
  intro L; simp only [ents, List.all_map, List.all_eq_true]; intro x _; rfl
theorem findKey_m (k : ByteArray) : ∀ (l : AL (List Part)) (i : Nat), findKey (.string k) (entsM l) i = some ((fk k l i).map fun p => (p.1, encP p.2 k))
  | [], i => rfl
  | (k', v) :: r, i => by
    show (match keyEq (.string k) (.string k') with
      | some true => some (some (i, encP v k'))
      | some false => findKey (.string k) (entsM r) (i + 1)
      | none => none) = _
    rw [findKey_m k r (i + 1)]
    simp only [keyEq, fk, ba_beq]
    by_cases h : k = k'
    · subst h; simp
    · simp [h]
/-- the program's way, in Lean; m: policies by name; n: how deep at most -/
def addF (s : Fl) (l : List Part) : Int × Fl := (addE (s.out ++ l), { s with out := s.out ++ l })
def partsF (g : Fl → ByteArray → Int × Fl) : Fl → List Part → Int × Fl
  | s, [] => (0, s)
  | s, x :: r =>
    let q := if x.use = ⟨#[]⟩ then addF s [x] else g s x.use
    if q.1 = 0 then partsF g q.2 r else q
def setK {α : Type} (l : AL α) (k : ByteArray) (v : α) : AL α :=
  match fk k l 0 with
  | some (i, _) => l.set i (k, v)
  | none => l ++ [(k, v)]
def delK {α : Type} (l : AL α) (k : ByteArray) : AL α :=
  match fk k l 0 with
  | some (i, _) => l.eraseIdx i
  | none => l
def polF (m : AL (List Part)) : Nat → Fl → ByteArray → Int × Fl
  | 0, s, _ => (0, s)
  | n + 1, s, name =>
    match fk name m 0 with
    | none => (7, s)
    | some (_, ps) => match fk name s.within 0 with
      | some _ => (5, s)
      | none => match fk name s.known 0 with
        | some (_, l) => addF s l
        | none =>
          let r := partsF (polF m n) { s with within := s.within ++ [(name, ())] } ps
          if r.1 = 0 then (0, { within := delK r.2.within name, known := setK r.2.known name (r.2.out.drop s.out.length), out := r.2.out }) else r
@[reducible] def stF (m : AL (List Part)) (s : Fl) : St := flatSt (entsM m) (ents encW s.within) (ents encK s.known) s.out
/-- a part's contract out of a policy's -/
theorem partR (m : AL (List Part)) (n : Nat) (s : Fl) (x : Part) (ho : s.out.length ≤ 500)
    (hp : x.use ≠ ⟨#[]⟩ → Am.Spec Tryz.prog 37 [.one (.ptr 3 0), str x.use] (stF m s) (fun v s' => v = int .i64 (polF m n s x.use).1 ∧ s' = stF m (polF m n s x.use).2)) :
    Am.Spec Tryz.prog 69 [.one (.ptr 3 0), .agg (x.row.map .d)] (stF m s)
      (fun v s' => v = int .i64 (if x.use = ⟨#[]⟩ then addF s [x] else polF m n s x.use).1 ∧ s' = stF m (if x.use = ⟨#[]⟩ then addF s [x] else polF m n s x.use).2) := by
  have ha := addR (entsM m) (ents encW s.within) (ents encK s.known) (pure_m _) (pure_w _) (pure_k _) s.out [x] (by omega) (by simp)
  obtain ⟨xu, ⟨xk, xd⟩, xr⟩ := x
  by_cases he : xu = ⟨#[]⟩
  · subst he
    simp only [if_true]
    refine Spec.body (C := cx [] 16) fits (fn := Tryz.f69) Tryz.func69 rfl (by decide) (by decide) (gI ?_)
    repeat' (first | refine fR ?_ (h6 := under6 (pure_m _) (pure_w _) (pure_k _)) | ((first | refine C_r ?_ | refine C0_r ?_ | refine O_r ?_ | refine R_r ?_); (conv => whnf); first | (refine ⟨fun hb => ?_, fun hb => ?_⟩ <;> try exact no_way) | refine A_o ?_ | refine B_o ?_ | refine C_o ?_ | refine R_o ?_ | refine fR ?_ | refine fRk ?_ | refine F_o ?_) | refine fun k => WL.crp [0, 1, 2, 3, 4] (stF m s) _ _ ha (oW ?_ _) (under6 (pure_m _) (pure_w _) (pure_k _)) (under7 (pure_m _) (pure_w _) (pure_k _)) | refine SA_l ?_ | refine V_l ?_ | refine L_l ?_ | refine Q_l ?_ | refine X_l ?_ | refine Xa_l ?_ | refine Xs_l ?_ | refine K_l ?_ | refine Ka_l ?_ | refine Lk_l ?_ | refine Up_l ?_ | refine Del_l ?_ | refine St_l ?_ | refine LU_l ?_ | refine Xw_l ?_ | refine Le_l ?_ | refine Se_l ?_ | refine M_l ?_ | refine A_l ?_ | refine A0_l ?_ | refine A1_l ?_ | refine Mk_l ?_ | refine Kz_l ?_ | refine W_l ?_ | fail)
    exact ⟨rfl, rfl⟩
  · simp only [if_neg he]
    have hp' := hp he
    refine Spec.body (C := cx [] 16) fits (fn := Tryz.f69) Tryz.func69 rfl (by decide) (by decide) (gI ?_)
    repeat' (first | refine fR ?_ (h6 := under6 (pure_m _) (pure_w _) (pure_k _)) | ((first | refine C_r ?_ | refine C0_r ?_ | refine O_r ?_ | refine R_r ?_); (conv => whnf); first | (refine ⟨fun hb => ?_, fun hb => ?_⟩ <;> try exact no_way) | refine A_o ?_ | refine B_o ?_ | refine C_o ?_ | refine R_o ?_ | refine fR ?_ | refine fRk ?_ | refine F_o ?_) | refine fun k => WL.crp [0, 1, 2, 3, 4] (stF m s) _ _ hp' (oW ?_ _) (under6 (pure_m _) (pure_w _) (pure_k _)) (under7 (pure_m _) (pure_w _) (pure_k _)) | refine SA_l ?_ | refine V_l ?_ | refine L_l ?_ | refine Q_l ?_ | refine X_l ?_ | refine Xa_l ?_ | refine Xs_l ?_ | refine K_l ?_ | refine Ka_l ?_ | refine Lk_l ?_ | refine Up_l ?_ | refine Del_l ?_ | refine St_l ?_ | refine LU_l ?_ | refine Xw_l ?_ | refine Le_l ?_ | refine Se_l ?_ | refine M_l ?_ | refine A_l ?_ | refine A0_l ?_ | refine A1_l ?_ | refine Mk_l ?_ | refine Kz_l ?_ | refine W_l ?_ | fail)
    · exact ⟨rfl, rfl⟩
    · exact absurd hb (by simp [ba_beq, he])
end Go.Proofs.YtjjhckmnnaafkaaGreatDoor
