/- A part of a proof: functions of the program walked over the abstract machine, and what they compute. -/
import Derived.Test.YtjjhckmnnaafkaaDoorPWAr
set_option linter.unusedVariables false
set_option linter.unusedSimpArgs false
namespace Go.Proofs.YtjjhckmnnaafkaaDoor
open Go Go.Am Go.Proofs
attribute [local irreducible] W WL DL WO RoundEnd
set_option maxRecDepth 10000
set_option maxHeartbeats 4000000
theorem opF_range (s : ByteArray) : 0 ≤ opF s ∧ opF s ≤ 6 := by
  unfold opF
  repeat' split
  all_goals decide
theorem op_ix (s : ByteArray) : 1 + ixF s cmpOps 0 = opF s := by
  by_cases h1 : s = ⟨#[61, 61]⟩
  · subst h1; rfl
  by_cases h2 : s = ⟨#[33, 61]⟩
  · subst h2; rfl
  by_cases h3 : s = ⟨#[60]⟩
  · subst h3; rfl
  by_cases h4 : s = ⟨#[60, 61]⟩
  · subst h4; rfl
  by_cases h5 : s = ⟨#[62]⟩
  · subst h5; rfl
  by_cases h6 : s = ⟨#[62, 61]⟩
  · subst h6; rfl
  simp [cmpOps, ixF, opF, ba_beq, h1, h2, h3, h4, h5, h6]
theorem opR (s : ByteArray) : Comp Tryd.prog 81 [str s] (int .i64 (opF s)) := by
  have c1 := indexR cmpOps s (by decide)
  have e := op_ix s
  have r := opF_range s
  generalize ixF s cmpOps 0 = j at c1 e
  refine Spec.body (C := cx [] 7) fits (fn := Tryd.f81) Tryd.func81 rfl (by decide) (by decide) (gI ?_)
  refine ST (wc c1 wz) ?_ <;> (repeat' (first | exact Wl.mk | refine wy1 ?_ ?_)) <;> repeat (intro hb; have hx := wy5 hb; clear hx)
  exact ⟨by rw [wrap_ok (by omega) (by omega), e]; rfl, rfl⟩
theorem bz1 {x : Int} (h : (!(x == 0)) = true) : ¬ x = 0 := by simpa using h
theorem bz0 {x : Int} (h : (!(x == 0)) = false) : x = 0 := by simpa using h
theorem bl1 {x : Int} (h : decide (x < 0) = true) : x < 0 := of_decide_eq_true h
theorem bl0 {x : Int} (h : decide (x < 0) = false) : ¬ x < 0 := of_decide_eq_false h
def bndO (ds : List Def) (ps : List ByteArray) : St := [.var [.d (.list (ds.map Def.row)), .d (.list (ps.map strow))]]
def cdV (q : Cd × Int) : V := .tup [.agg (q.1.row.map .d), .one (.d (.sc (.int .i64 q.2)))]
theorem atomR (ds : List Def) (ps : List ByteArray) (e : Ex) (he : cmpOk e) (hk : e.nok) (hds : ds.length < 2 ^ 40) (hdn : ∀ d ∈ ds, d.expr.nok) (hps : ps.length < 2 ^ 60) :
    Am.Spec Tryd.prog 61 [.one (.ptr 0 0), .agg (e.row.map .d)] (bndO ds ps) (fun v s => v = cdV (atomF ds ps e) ∧ s = bndO ds ps) := by
  obtain ⟨o, n, u, k, v, rfl, hk6⟩ := he
  have hA : atomF ds ps (.mk 4 o n u [k, v]) = (if ixF k.name ps 0 < 0 then (cd0, 7)
    else if (maskF ds k).2 = 0 then
      (if (valOf ds v).2 = 0 then (.mk 5 ⟨ixF k.name ps 0, opF o, (maskF ds k).1, (valOf ds v).1⟩ [], 0) else (cd0, (valOf ds v).2))
    else (cd0, (maskF ds k).2)) := rfl
  rw [hA]
  have c1 := indexR ps k.name hps
  have c2 := opR o
  have c3 := constR ds v hds hdn hk.2.2.1
  change Comp Tryd.prog _ _ (cvV (valOf ds v)) at c3
  clear hA
  unfold bndO
  by_cases h6 : k.kind = 6
  · obtain ⟨o', n', u', x, rfl⟩ := hk6 h6
    have c4 := constR ds x hds hdn hk.2.1.2.1
    change Comp Tryd.prog _ _ (cvV (valOf ds x)) at c4
    have hm : maskF ds (.mk 6 o' n' u' [x]) = valOf ds x := by unfold maskF; rw [if_pos h6]; rfl
    rw [hm]
    generalize valOf ds x = q at *
    generalize valOf ds v = p at *
    change Comp Tryd.prog _ [lst strow ps, str n'] (int .i64 (ixF n' ps 0)) at c1
    simp only [show (Ex.mk 6 o' n' u' [x]).name = n' from rfl]
    generalize ixF n' ps 0 = a at *
    obtain ⟨p1, p2⟩ := p
    obtain ⟨q1, q2⟩ := q
    obtain ⟨xk, xo, xm, xu, xl⟩ := x
    obtain ⟨vk, vo, vm, vu, vl⟩ := v
    unfold cvV at c3 c4
    refine Spec.body (C := cx [] 72) fits (fn := Tryd.f61) Tryd.func61 rfl (by decide) (by decide) (gI ?_)
    refine STD (wc c1 (wc c2 (wc c3 (wc c4 wz)))) ?_ <;> (repeat' (first | exact Wl.mk | refine wy1 ?_ ?_)) <;> repeat (intro hb; have hx := wy5 hb; clear hx)
    all_goals first
      | (have h1 : decide (a < 0) = true := (by assumption); exact ⟨by rw [if_pos (bl1 h1)]; rfl, rfl⟩)
      | (have h1 : decide (a < 0) = false := (by assumption); have h2 : (!(q2 == 0)) = true := (by assumption); exact ⟨by rw [if_neg (bl0 h1), if_neg (bz1 h2)]; rfl, rfl⟩)
      | (have h1 : decide (a < 0) = false := (by assumption); have h2 : (!(q2 == 0)) = false := (by assumption); have h3 : (!(p2 == 0)) = true := (by assumption); exact ⟨by rw [if_neg (bl0 h1), if_pos (bz0 h2), if_neg (bz1 h3)]; rfl, rfl⟩)
      | (have h1 : decide (a < 0) = false := (by assumption); have h2 : (!(q2 == 0)) = false := (by assumption); have h3 : (!(p2 == 0)) = false := (by assumption); exact ⟨by rw [if_neg (bl0 h1), if_pos (bz0 h2), if_pos (bz0 h3)]; rfl, rfl⟩)
  · have hm : maskF ds k = (allBits, 0) := by unfold maskF; rw [if_neg h6]
    rw [hm]
    generalize valOf ds v = p at *
    obtain ⟨kk, ko, kn, ku, kl⟩ := k
    have h6 : ¬ kk = 6 := h6
    have b6 : (kk == 6) = false := by simpa using h6
    change Comp Tryd.prog _ [lst strow ps, str kn] (int .i64 (ixF kn ps 0)) at c1
    simp only [show (Ex.mk kk ko kn ku kl).name = kn from rfl]
    generalize ixF kn ps 0 = a at *
    obtain ⟨p1, p2⟩ := p
    obtain ⟨vk, vo, vm, vu, vl⟩ := v
    unfold cvV at c3
    refine Spec.body (C := cx [] 72) fits (fn := Tryd.f61) Tryd.func61 rfl (by decide) (by decide) (gI ?_)
    refine STD (wc c1 (wc c2 (wc c3 wz))) ?_ <;> (repeat' (first | exact Wl.mk | refine wy1 ?_ ?_)) <;> repeat (intro hb; have hx := wy5 hb; clear hx)
    all_goals first
      | (have h1 : decide (a < 0) = true := (by assumption); exact ⟨by rw [if_pos (bl1 h1)]; rfl, rfl⟩)
      | (have h1 : decide (a < 0) = false := (by assumption); have h3 : (!(p2 == 0)) = true := (by assumption); exact ⟨by rw [if_neg (bl0 h1), if_pos trivial, if_neg (bz1 h3)]; rfl, rfl⟩)
      | (have h1 : decide (a < 0) = false := (by assumption); have h3 : (!(p2 == 0)) = false := (by assumption); exact ⟨by rw [if_neg (bl0 h1), if_pos trivial, if_pos (bz0 h3)]; rfl, rfl⟩)
end Go.Proofs.YtjjhckmnnaafkaaDoor
namespace Go.Proofs.YtjjhckmnnaafkaaDoor
open Go Go.Am Go.Proofs
attribute [local irreducible] W WL DL WO RoundEnd
set_option maxRecDepth 10000
set_option maxHeartbeats 4000000
theorem cndF_4 (ds : List Def) (ps : List ByteArray) (o n : ByteArray) (u : Int) (l : List Ex) : cndF ds ps (.mk 4 o n u l) = atomF ds ps (.mk 4 o n u l) := by
  rw [cndF, if_pos rfl]
theorem cndF_n (ds : List Def) (ps : List ByteArray) (k : Int) (o n : ByteArray) (u : Int) (l : List Ex) (h : k ≠ 4) : cndF ds ps (.mk k o n u l) = if (cndsF ds ps l []).2 = 0 then (.mk (ckF k) atm0 (cndsF ds ps l []).1, 0) else (cd0, (cndsF ds ps l []).2) := by
  rw [cndF, if_neg h]
theorem noks_mem : ∀ {l : List Ex} {x : Ex}, Ex.noks l → x ∈ l → x.nok
  | [], _, _, h => by simp at h
  | y :: l, x, h, hm => by
    rcases List.mem_cons.1 hm with rfl | hm
    · exact h.1
    · exact noks_mem h.2 hm
theorem ck1 : ckF 1 = 4 := by decide
theorem ck2 : ckF 2 = 3 := by decide
theorem ck3 : ckF 3 = 2 := by decide
theorem cndR (ds : List Def) (ps : List ByteArray) (hds : ds.length < 2 ^ 40) (hdn : ∀ d ∈ ds, d.expr.nok) (hps : ps.length < 2 ^ 60) : ∀ (n : Nat) (e : Ex), e.size < n → e.nok → e.ok → condOk e →
    Am.Spec Tryd.prog 37 [.one (.ptr 0 0), .agg (e.row.map .d)] (bndO ds ps) (fun v s => v = cdV (cndF ds ps e) ∧ s = bndO ds ps) := by
  intro n
  induction n with
  | zero => intro e h; omega
  | succ n IH =>
  intro e hs hk hok hc
  obtain ⟨k, o, nm, u, l⟩ := e
  by_cases h4 : k = 4
  · subst h4
    rw [cndF_4]
    have c1 := atomR ds ps _ (hc.1 rfl) hk hds hdn hps
    generalize atomF ds ps (.mk 4 o nm u l) = q at *
    obtain ⟨⟨ck, ⟨c2, c3, c4, c5⟩, cl⟩, q2⟩ := q
    unfold bndO at *
    refine Spec.body (C := cx [] 53) fits (fn := Tryd.f37) Tryd.func37 rfl (by decide) (by decide) (gI ?_)
    repeat' (first | ((first | refine C_r ?_ | refine C0_r ?_ | refine O_r ?_ | refine R_r ?_); (conv => whnf); first | (refine ⟨fun hb => ?_, fun hb => ?_⟩ <;> try exact no_way) | refine A_o ?_ | refine B_o ?_ | refine C_o ?_ | refine R_o ?_ | refine fR ?_ | refine fRk ?_ | refine F_o ?_) | refine fun k => WL.crpU [0] [.var [.d (.list (ds.map Def.row)), .d (.list (ps.map strow))]] _ _ c1 (oW ?_ _) | refine SA_l ?_ | refine V_l ?_ | refine L_l ?_ | refine Q_l ?_ | refine X_l ?_ | refine Xa_l ?_ | refine Xs_l ?_ | refine K_l ?_ | refine Ka_l ?_ | refine Lk_l ?_ | refine Up_l ?_ | refine Del_l ?_ | refine St_l ?_ | refine LU_l ?_ | refine Xw_l ?_ | refine Le_l ?_ | refine Se_l ?_ | refine M_l ?_ | refine A_l ?_ | refine A0_l ?_ | refine A1_l ?_ | refine Mk_l ?_ | refine Kz_l ?_ | refine W_l ?_ | fail)
    exact ⟨rfl, rfl⟩
  · have b4 : (k == 4) = false := by simpa using h4
    have hc2 : (k = 1 ∨ k = 2 ∨ k = 3) ∧ condsOk l := by
      rcases hc.2 with h | h
      · exact absurd h h4
      · exact h
    obtain ⟨hk3, hcl⟩ := hc2
    rw [cndF_n _ _ _ _ _ _ _ h4]
    generalize hfb : cndsF ds ps l [] = fb
    have hll : l.length ≤ 2000000000000 := by have := hok.1; omega
    have hkl := hk.2
    have hokl := hok.2
    unfold bndO at *
    have el : Ex.rows l = l.map Ex.row := Ex.rows_eq l
    simp only [Ex.row, el, List.map_cons, List.map_nil]
    obtain ⟨w, hw⟩ : ∃ w, ckF k = w := ⟨_, rfl⟩
    rw [hw]
    clear hc hok hk
    refine Spec.body (C := cx [] 53) fits (fn := Tryd.f37) Tryd.func37 rfl (by decide) (by decide) (gI ?_)
    rcases hk3 with rfl | rfl | rfl
    all_goals
      simp only [ck1, ck2, ck3] at hw
      subst hw
      refine ST wz ?_ <;> (repeat' (first | exact Wl.mk | refine wy1 ?_ ?_)) <;> repeat (intro hb; have hx := wy5 hb; clear hx)
      refine gA 3 5 false 6 ?_
      refine wLoop [0, 4, 6, 29, 30, 31] 5 (l.length + 1) ?_
      refine (fun key => key l [] _ [] rfl rfl hfb.symm (Nat.le_refl _) :
        (∀ (rest done : List Ex) (j : Int) (out : List Cd), l = done ++ rest → j = done.length → fb = cndsF ds ps rest out → out.length ≤ done.length →
        WR2 _ _ _ _ _ (rest.length + 1) [(0, .one (.ptr 0 0)), (4, .one (.ptr 2 0)), (6, .one (.ptr 3 0)), (29, lst Ex.row l), (30, int .i64 (l.map Ex.row).length), (31, int .i64 j)]
          [.var [.d (.list (ds.map Def.row)), .d (.list (ps.map strow))], .var [.d (.sc (.int .i64 _)), .d (.sc (.string o)), .d (.sc (.string nm)), .d (.sc (.int .u64 u)), .d (.list (l.map Ex.row))],
           .var [.d (.sc (.int .i64 0)), .d (.sc (.int .i64 0)), .d (.sc (.int .i64 0)), .d (.sc (.int .u64 0)), .d (.sc (.int .u64 0)), .d (.sc (.slice none 0 0))],
           .var [.d (.sc (.int .i64 _)), .d (.sc (.int .i64 0)), .d (.sc (.int .i64 0)), .d (.sc (.int .u64 0)), .d (.sc (.int .u64 0)), .arr 4 0 (out.map Cd.row).length], .arr 0 false 6 (out.map Cd.row)]) → _) ?_
      intro rest
      induction rest with
      | nil =>
        intro done j out h1 hj hr ho
        have hlen : l.length = done.length := by rw [h1]; simp
        refine wR (gI ?_)
        refine ST wz ?_ <;> (repeat' (first | exact Wl.mk | refine wy1 ?_ ?_)) <;> repeat (intro hb; have hx := wy5 hb; clear hx)
        rw [cndsF] at hr
        exact ⟨by rw [hr, if_pos rfl]; simp only [cdV, Cd.row, Cd.rows_eq]; rfl, rfl⟩
      | cons x rest ih =>
        intro done j out h1 hj hr ho
        have hlen : l.length = done.length + (rest.length + 1) := by rw [h1]; simp
        have hxm : x ∈ l := by rw [h1]; simp
        have gx := at_mid (f := Ex.row) h1 hj
        have hcx := IH x (by have := Ex.size_mem hxm; rw [Ex.size] at hs; omega) (noks_mem hkl hxm) (Ex.oks_mem hokl hxm) (condsOk_mem hcl hxm)
        have g := fun out' => ih (done ++ [x]) (IntKind.wrap .i64 (j + 1)) out' (by rw [h1]; simp) (by rw [wrap_ok (by omega) (by omega)]; simp [hj])
        rw [cndsF] at hr
        generalize cndF ds ps x = q at hcx hr
        obtain ⟨⟨ck, ⟨c2, c3, c4, c5⟩, cl⟩, q2⟩ := q
        obtain ⟨xk, xo, xm, xu, xl⟩ := x
        refine wR (gI ?_)
        repeat' (first | ((first | refine C_r ?_ | refine C0_r ?_ | refine O_r ?_ | refine R_r ?_); (conv => whnf); first | (refine ⟨fun hb => ?_, fun hb => ?_⟩ <;> try exact no_way) | refine A_o ?_ | refine B_o ?_ | refine C_o ?_ | refine R_o ?_ | refine fR ?_ | refine fRk ?_ | refine F_o ?_) | refine fun k => WL.crpU [0] [.var [.d (.list (ds.map Def.row)), .d (.list (ps.map strow))]] _ _ hcx (oW ?_ _) | refine SA_l ?_ | refine V_l ?_ | refine L_l ?_ | refine Q_l ?_ | refine X_l ?_ | refine Xa_l ?_ | refine Xs_l ?_ | refine K_l ?_ | refine Ka_l ?_ | refine Lk_l ?_ | refine Up_l ?_ | refine Del_l ?_ | refine St_l ?_ | refine LU_l ?_ | refine Xw_l ?_ | refine Le_l ?_ | refine Se_l ?_ | refine M_l ?_ | refine A_l ?_ | refine A0_l ?_ | refine A1_l ?_ | refine Mk_l ?_ | refine Kz_l ?_ | refine W_l ?_ | fail)
        · have hz := bz1 hb
          rw [if_neg hz] at hr
          exact ⟨by rw [hr, if_neg hz]; rfl, rfl⟩
        · have hz := bz0 hb
          rw [if_pos hz] at hr
          have g := g _ hr (by simp; omega)
          rw [List.map_append] at g
          exact rE g
end Go.Proofs.YtjjhckmnnaafkaaDoor
namespace Go.Proofs.YtjjhckmnnaafkaaDoor
open Go Go.Am Go.Proofs
attribute [local irreducible] W WL DL WO RoundEnd
set_option maxRecDepth 10000
set_option maxHeartbeats 4000000
theorem ixF_cons (s x : ByteArray) (r : List ByteArray) (j : Int) : ixF s (x :: r) j = if x == s then j else ixF s r (j + 1) := by
  rw [ixF, ba_beq, ba_beq]
  by_cases h : s = x
  · subst h; rfl
  · rw [if_neg (by simpa using h), if_neg (by simpa using fun e => h e.symm)]
end Go.Proofs.YtjjhckmnnaafkaaDoor
