/- A part of a proof: functions of the program walked over the abstract machine, and what they compute. -/
import Derived.Test.YtjjhckmnnaafkaaGreatDoorPWAr
import Derived.Test.YtjjhckmnnaafkaaGreatDoorPWAo
import Derived.Test.YtjjhckmnnaafkaaGreatDoorPWAq
set_option linter.unusedVariables false
set_option linter.unusedSimpArgs false
namespace Go.Proofs.YtjjhckmnnaafkaaGreatDoor
open Go Go.Am Go.Proofs
attribute [local irreducible] W WL DL WO RoundEnd
set_option maxRecDepth 10000
set_option maxHeartbeats 4000000
def fewRule (r : Rule) : Bool := decide (r.call.size ≤ 60) && (decide (r.params.length ≤ 10) && (decide (r.cond.length ≤ 3) && (r.params.all (fun s => decide (s.size ≤ 60)) && r.cond.all few)))
def fewPart (p : Part) : Bool := decide (p.use.size ≤ 60) && (decide (p.rules.length ≤ 12) && p.rules.all fewRule)
def fewPol (p : Pol) : Bool := decide (p.parts.length ≤ 12) && (decide (p.name.size ≤ 60) && p.parts.all fewPart)
def fewDef (d : Def) : Bool := few d.expr && decide (d.name.size ≤ 60)
def ruleN (l : List Part) : Nat := (l.map fun p => p.rules.length).sum
def ruleNs (l : List Pol) : Nat := (l.map fun p => ruleN p.parts).sum
def fewUnit (u : Un) : Bool := decide (u.defs.length ≤ 12) && (decide (u.pols.length ≤ 8) && (decide (u.main.length ≤ 8) && (u.defs.all fewDef && (u.main.all (fun s => decide (s.size ≤ 60)) && (u.pols.all fewPol && decide (ruleNs u.pols ≤ 60))))))
theorem fewUnitR (u : Un) : Comp Tryz.prog 10 [.agg u.cells] (bool (fewUnit u)) := by
  obtain ⟨ds, ps, ms, ⟨dk, dd⟩⟩ := u
  generalize hfb : fewUnit ⟨ds, ps, ms, ⟨dk, dd⟩⟩ = fb
  refine Spec.body (C := cx [] 184) fits (fn := Tryz.f10) Tryz.func10 rfl (by decide) (by decide) (gI ?_)
  refine ST wz ?_ <;> (repeat' (first | exact Wl.mk | refine wy1 ?_ ?_)) <;> repeat (intro hb; have hx := wy5 hb; clear hx)
  · have h : ¬ ds.length ≤ 12 := by simp at hb; omega
    exact ⟨by rw [← hfb]; simp [fewUnit, h]; rfl, rfl⟩
  · have h : ¬ ps.length ≤ 8 := by simp at hb; omega
    exact ⟨by rw [← hfb]; simp [fewUnit, h]; rfl, rfl⟩
  · have h : ¬ ms.length ≤ 8 := by simp at hb; omega
    exact ⟨by rw [← hfb]; simp [fewUnit, h]; rfl, rfl⟩
  have a1 : ds.length ≤ 12 := by
    have h : decide (((ds.map Def.row).length : Int) > 12) = false := by assumption
    simp at h; omega
  have a2 : ps.length ≤ 8 := by
    have h : decide (((ps.map Pol.row).length : Int) > 8) = false := by assumption
    simp at h; omega
  have a3 : ms.length ≤ 8 := by
    have h : decide (((ms.map strow).length : Int) > 8) = false := by assumption
    simp at h; omega
  have hfb1 : fb = (ds.all fewDef && (ms.all (fun s => decide (s.size ≤ 60)) && (ps.all fewPol && decide (ruleNs ps ≤ 60)))) := by
    rw [← hfb]; simp [fewUnit, a1, a2, a3]
  refine wLoop [1, 3, 4] 1 (ds.length + 1) ?_
  refine (fun key => key ds [] _ rfl rfl hfb1 :
    (∀ (rest done : List Def) (j : Int), ds = done ++ rest → j = done.length → fb = (rest.all fewDef && (ms.all (fun s => decide (s.size ≤ 60)) && (ps.all fewPol && decide (ruleNs ps ≤ 60)))) →
    WR2 _ _ _ _ _ (rest.length + 1) [(1, .one (.ptr 0 0)), (3, int .i64 0), (4, int .i64 j)] [.var [.d (.list (ds.map Def.row)), .d (.list (ps.map Pol.row)), .d (.list (ms.map strow)), .d (.sc (.int .i64 dk)), .d (.sc (.int .i64 dd))]]) → _) ?_
  intro rest
  induction rest with
  | cons x rest ih =>
    intro done j hl hj hr
    have hlen : ds.length = done.length + (rest.length + 1) := by rw [hl]; simp
    have hc := fewR x.expr
    obtain ⟨xn, ⟨xk, xo, xm, xu, xl⟩⟩ := x
    refine wR (gI ?_)
    repeat' (first | ((first | refine C_r ?_ | refine C0_r ?_ | refine O_r ?_ | refine R_r ?_); (conv => whnf); first | (refine ⟨fun hb => ?_, fun hb => ?_⟩ <;> try exact no_way) | refine A_o ?_ | refine B_o ?_ | refine C_o ?_ | refine R_o ?_ | refine fR ?_ | refine fRk ?_ | refine F_o ?_) | refine B_l (hc) (fun h1 => ?_) fun h1 => ?_ | refine SA_l ?_ | refine V_l ?_ | refine L_l ?_ | refine Q_l ?_ | refine X_l ?_ | refine Xa_l ?_ | refine Xs_l ?_ | refine K_l ?_ | refine Ka_l ?_ | refine Lk_l ?_ | refine Up_l ?_ | refine Del_l ?_ | refine St_l ?_ | refine LU_l ?_ | refine Xw_l ?_ | refine Le_l ?_ | refine Se_l ?_ | refine M_l ?_ | refine A_l ?_ | refine A0_l ?_ | refine A1_l ?_ | refine Mk_l ?_ | refine Kz_l ?_ | refine W_l ?_ | fail)
    · have h2 : ¬ xn.size ≤ 60 := by simp at hb; omega
      exact ⟨by rw [hr]; simp [fewDef, h2]; rfl, rfl⟩
    · have h2 : xn.size ≤ 60 := by simp at hb; omega
      refine rE (ih (done ++ [⟨xn, Ex.mk xk xo xm xu xl⟩]) _ (by rw [hl]; simp) ?_ ?_)
      · rw [wrap_ok (by omega) (by omega)]; simp [hj]
      · rw [hr]; simp [fewDef, h2, h1]
    · exact ⟨by rw [hr]; simp [fewDef, h1]; rfl, rfl⟩
  | nil =>
    intro done j hl hj hr
    have hlen : ds.length = done.length := by rw [hl]; simp
    refine wR (gI ?_)
    refine ST wz ?_ <;> (repeat' (first | exact Wl.mk | refine wy1 ?_ ?_)) <;> repeat (intro hb; have hx := wy5 hb; clear hx)
    simp only [List.all_nil, Bool.true_and] at hr
    refine wLoop [1, 3, 5] 1 (ms.length + 1) ?_
    refine (fun key => key ms [] _ rfl rfl hr :
      (∀ (rest done : List ByteArray) (j : Int), ms = done ++ rest → j = done.length → fb = (rest.all (fun s => decide (s.size ≤ 60)) && (ps.all fewPol && decide (ruleNs ps ≤ 60))) →
      WR2 _ _ _ _ _ (rest.length + 1) [(1, .one (.ptr 0 0)), (3, int .i64 0), (5, int .i64 j)] [.var [.d (.list (ds.map Def.row)), .d (.list (ps.map Pol.row)), .d (.list (ms.map strow)), .d (.sc (.int .i64 dk)), .d (.sc (.int .i64 dd))]]) → _) ?_
    intro rest
    induction rest with
    | cons x rest ih =>
      intro done j hl hj hr
      have hlen : ms.length = done.length + (rest.length + 1) := by rw [hl]; simp
      refine wR (gI ?_)
      refine ST wz ?_ <;> (repeat' (first | exact Wl.mk | refine wy1 ?_ ?_)) <;> repeat (intro hb; have hx := wy5 hb; clear hx)
      · have h2 : ¬ x.size ≤ 60 := by simp at hb; omega
        exact ⟨by rw [hr]; simp [h2]; rfl, rfl⟩
      · have h2 : x.size ≤ 60 := by simp at hb; omega
        refine rE (ih (done ++ [x]) _ (by rw [hl]; simp) ?_ ?_)
        · rw [wrap_ok (by omega) (by omega)]; simp [hj]
        · rw [hr]; simp [h2]
    | nil =>
      intro done j hl hj hr
      have hlen : ms.length = done.length := by rw [hl]; simp
      refine wR (gI ?_)
      refine ST wz ?_ <;> (repeat' (first | exact Wl.mk | refine wy1 ?_ ?_)) <;> repeat (intro hb; have hx := wy5 hb; clear hx)
      simp only [List.all_nil, Bool.true_and] at hr
      refine wLoop [1, 3, 6] 1 (ps.length + 1) ?_
      refine (fun key => key ps [] _ 0 rfl rfl (by rw [hr, Nat.zero_add]) (by omega) :
        (∀ (rest done : List Pol) (j : Int) (n : Nat), ps = done ++ rest → j = done.length → fb = (rest.all fewPol && decide (n + ruleNs rest ≤ 60)) → n ≤ 60 →
        WR2 _ _ _ _ _ (rest.length + 1) [(1, .one (.ptr 0 0)), (3, int .i64 n), (6, int .i64 j)] [.var [.d (.list (ds.map Def.row)), .d (.list (ps.map Pol.row)), .d (.list (ms.map strow)), .d (.sc (.int .i64 dk)), .d (.sc (.int .i64 dd))]]) → _) ?_
      intro rest
      induction rest with
      | nil =>
        intro done j n hl hj hr hn
        have hlen : ps.length = done.length := by rw [hl]; simp
        refine wR (gI ?_)
        refine ST wz ?_ <;> (repeat' (first | exact Wl.mk | refine wy1 ?_ ?_)) <;> repeat (intro hb; have hx := wy5 hb; clear hx)
        exact ⟨by rw [hr]; simp [ruleNs, hn]; rfl, rfl⟩
      | cons x rest ih =>
        intro done j n hl hj hr hn
        have hlen : ps.length = done.length + (rest.length + 1) := by rw [hl]; simp
        obtain ⟨pn, pp⟩ := x
        refine wR (gI ?_)
        refine ST wz ?_ <;> (repeat' (first | exact Wl.mk | refine wy1 ?_ ?_)) <;> repeat (intro hb; have hx := wy5 hb; clear hx)
        · have h2 : ¬ pp.length ≤ 12 := by simp at hb; omega
          exact ⟨by rw [hr]; simp [fewPol, h2]; rfl, rfl⟩
        · have h2 : ¬ pn.size ≤ 60 := by simp at hb; omega
          exact ⟨by rw [hr]; simp [fewPol, h2]; rfl, rfl⟩
        have h2 : pn.size ≤ 60 := by simp at hb; omega
        have h3 : pp.length ≤ 12 := by
          have h : decide (((pp.map Part.row).length : Int) > 12) = false := by assumption
          simp at h; omega
        have hr2 : fb = (pp.all fewPart && (rest.all fewPol && decide (n + ruleN pp + ruleNs rest ≤ 60))) := by
          rw [hr]; simp [fewPol, h2, h3, ruleNs, Bool.and_assoc, Nat.add_assoc]
        refine wLoop [1, 3, 6, 7, 8] 1 (pp.length + 1) ?_
        refine (fun key => key pp [] _ n rfl rfl hr2 hn :
          (∀ (rest2 done2 : List Part) (j2 : Int) (n : Nat), pp = done2 ++ rest2 → j2 = done2.length → fb = (rest2.all fewPart && (rest.all fewPol && decide (n + ruleN rest2 + ruleNs rest ≤ 60))) → n ≤ 60 →
          WR2 _ _ _ _ _ (rest2.length + 1) [(1, .one (.ptr 0 0)), (3, int .i64 n), (6, int .i64 j), (7, lst Part.row pp), (8, int .i64 j2)] [.var [.d (.list (ds.map Def.row)), .d (.list (ps.map Pol.row)), .d (.list (ms.map strow)), .d (.sc (.int .i64 dk)), .d (.sc (.int .i64 dd))]]) → _) ?_
        intro rest2
        clear hr2 hr hn n
        induction rest2 with
        | nil =>
          intro done2 j2 n hl2 hj2 hr hn
          have hlen2 : pp.length = done2.length := by rw [hl2]; simp
          refine wR (gI ?_)
          refine ST wz ?_ <;> (repeat' (first | exact Wl.mk | refine wy1 ?_ ?_)) <;> repeat (intro hb; have hx := wy5 hb; clear hx)
          refine rE (ih (done ++ [⟨pn, pp⟩]) _ n (by rw [hl]; simp) ?_ ?_ hn)
          · rw [wrap_ok (by omega) (by omega)]; simp [hj]
          · rw [hr]; simp [ruleN]
        | cons x rest2 ih2 =>
          intro done2 j2 n hl2 hj2 hr hn
          have hlen2 : pp.length = done2.length + (rest2.length + 1) := by rw [hl2]; simp
          obtain ⟨xu, ⟨xk, xd⟩, xr⟩ := x
          refine wR (gI ?_)
          refine ST wz ?_ <;> (repeat' (first | exact Wl.mk | refine wy1 ?_ ?_)) <;> repeat (intro hb; have hx := wy5 hb; clear hx)
          · have h2 : ¬ xu.size ≤ 60 := by simp at hb; omega
            exact ⟨by rw [hr]; simp [fewPart, h2]; rfl, rfl⟩
          · have h2 : ¬ xr.length ≤ 12 := by simp at hb; omega
            exact ⟨by rw [hr]; simp [fewPart, h2]; rfl, rfl⟩
          have h4 : xr.length ≤ 12 := by simp at hb; omega
          have h5 : xu.size ≤ 60 := by
            have h : decide ((xu.size : Int) > 60) = false := by assumption
            simp at h; omega
          have hr2 : fb = (xr.all fewRule && (rest2.all fewPart && (rest.all fewPol && decide (n + xr.length + ruleN rest2 + ruleNs rest ≤ 60)))) := by
            rw [hr]; simp [fewPart, h4, h5, ruleN, Bool.and_assoc, Nat.add_assoc]
          refine wLoop [1, 3, 6, 7, 8, 9] 1 (xr.length + 1) ?_
          refine (fun key => key xr [] _ n rfl rfl hr2 hn :
            (∀ (rest3 done3 : List Rule) (j3 : Int) (n : Nat), xr = done3 ++ rest3 → j3 = done3.length → fb = (rest3.all fewRule && (rest2.all fewPart && (rest.all fewPol && decide (n + rest3.length + ruleN rest2 + ruleNs rest ≤ 60)))) → n ≤ 60 →
            WR2 _ _ _ _ _ (rest3.length + 1) [(1, .one (.ptr 0 0)), (3, int .i64 n), (6, int .i64 j), (7, lst Part.row pp), (8, int .i64 j2), (9, int .i64 j3)] [.var [.d (.list (ds.map Def.row)), .d (.list (ps.map Pol.row)), .d (.list (ms.map strow)), .d (.sc (.int .i64 dk)), .d (.sc (.int .i64 dd))]]) → _) ?_
          intro rest3
          clear hr2 hr hn n
          induction rest3 with
          | nil =>
            intro done3 j3 n hl3 hj3 hr hn
            have hlen3 : xr.length = done3.length := by rw [hl3]; simp
            refine wR (gI ?_)
            refine ST wz ?_ <;> (repeat' (first | exact Wl.mk | refine wy1 ?_ ?_)) <;> repeat (intro hb; have hx := wy5 hb; clear hx)
            refine rE (ih2 (done2 ++ [⟨xu, ⟨xk, xd⟩, xr⟩]) _ n (by rw [hl2]; simp) ?_ ?_ hn)
            · rw [wrap_ok (by omega) (by omega)]; simp [hj2]
            · rw [hr]; simp
          | cons x rest3 ih3 =>
            intro done3 j3 n hl3 hj3 hr hn
            have hlen3 : xr.length = done3.length + (rest3.length + 1) := by rw [hl3]; simp
            obtain ⟨rc, rp, rq⟩ := x
            have e1 : IntKind.wrap .i64 ((n : Int) + 1) = ((n + 1 : Nat) : Int) := by rw [wrap_ok (by omega) (by omega)]; rfl
            refine wR (gI ?_)
            refine ST wz ?_ <;> (repeat' (first | exact Wl.mk | refine wy1 ?_ ?_)) <;> repeat (intro hb; have hx := wy5 hb; clear hx)
            · have h2 : ¬ rc.size ≤ 60 := by simp at hb; omega
              exact ⟨by rw [hr]; simp [fewRule, h2]; rfl, rfl⟩
            · have h2 : ¬ rp.length ≤ 10 := by simp at hb; omega
              exact ⟨by rw [hr]; simp [fewRule, h2]; rfl, rfl⟩
            · have h2 : ¬ rq.length ≤ 3 := by simp at hb; omega
              exact ⟨by rw [hr]; simp [fewRule, h2]; rfl, rfl⟩
            · have h2 : ¬ n + (rest3.length + 1) + ruleN rest2 + ruleNs rest ≤ 60 := by rw [e1] at hb; simp at hb; omega
              exact ⟨by rw [hr, List.length_cons, decide_eq_false h2]; simp; rfl, rfl⟩
            have b1 : rc.size ≤ 60 := by
              have h : decide ((rc.size : Int) > 60) = false := by assumption
              simp at h; omega
            have b2 : rp.length ≤ 10 := by
              have h : decide (((rp.map strow).length : Int) > 10) = false := by assumption
              simp at h; omega
            have b3 : rq.length ≤ 3 := by
              have h : decide (((rq.map Ex.row).length : Int) > 3) = false := by assumption
              simp at h; omega
            have hn1 : n + 1 ≤ 60 := by rw [e1] at hb; simp at hb; omega
            generalize hX : (rest3.all fewRule && (rest2.all fewPart && (rest.all fewPol && decide (n + 1 + rest3.length + ruleN rest2 + ruleNs rest ≤ 60)))) = X
            have hr3 : fb = (rp.all (fun s => decide (s.size ≤ 60)) && (rq.all few && X)) := by
              rw [hr, ← hX]; simp [fewRule, b1, b2, b3, Bool.and_assoc, Nat.add_assoc, Nat.add_comm rest3.length 1]
            refine wLoop [1, 3, 6, 7, 8, 9, 10, 11] 2 (rp.length + 1) ?_
            refine (fun key => key rp [] _ rfl rfl hr3 :
              (∀ (rest4 done4 : List ByteArray) (j4 : Int), rp = done4 ++ rest4 → j4 = done4.length → fb = (rest4.all (fun s => decide (s.size ≤ 60)) && (rq.all few && X)) →
              WR2 _ _ _ _ _ (rest4.length + 1) [(1, .one (.ptr 0 0)), (3, int .i64 (IntKind.wrap .i64 ((n : Int) + 1))), (6, int .i64 j), (7, lst Part.row pp), (8, int .i64 j2), (9, int .i64 j3), (10, .one (.ptr 1 0)), (11, int .i64 j4)] [.var [.d (.list (ds.map Def.row)), .d (.list (ps.map Pol.row)), .d (.list (ms.map strow)), .d (.sc (.int .i64 dk)), .d (.sc (.int .i64 dd))], .var [.d (.sc (.string rc)), .d (.list (rp.map strow)), .d (.list (rq.map Ex.row))]]) → _) ?_
            intro rest4
            clear hr3
            induction rest4 with
            | cons x rest4 ih4 =>
              intro done4 j4 hl4 hj4 hr4
              have hlen4 : rp.length = done4.length + (rest4.length + 1) := by rw [hl4]; simp
              refine wR (gI ?_)
              refine ST wz ?_ <;> (repeat' (first | exact Wl.mk | refine wy1 ?_ ?_)) <;> repeat (intro hb; have hx := wy5 hb; clear hx)
              · have h2 : ¬ x.size ≤ 60 := by simp at hb; omega
                exact ⟨by rw [hr4]; simp [h2]; rfl, rfl⟩
              · have h2 : x.size ≤ 60 := by simp at hb; omega
                refine rE (ih4 (done4 ++ [x]) _ (by rw [hl4]; simp) ?_ ?_)
                · rw [wrap_ok (by omega) (by omega)]; simp [hj4]
                · rw [hr4]; simp [h2]
            | nil =>
              intro done4 j4 hl4 hj4 hr4
              have hlen4 : rp.length = done4.length := by rw [hl4]; simp
              refine wR (gI ?_)
              refine ST wz ?_ <;> (repeat' (first | exact Wl.mk | refine wy1 ?_ ?_)) <;> repeat (intro hb; have hx := wy5 hb; clear hx)
              simp only [List.all_nil, Bool.true_and] at hr4
              refine wLoop [1, 3, 6, 7, 8, 9, 10, 12] 2 (rq.length + 1) ?_
              refine (fun key => key rq [] _ rfl rfl hr4 :
                (∀ (rest5 done5 : List Ex) (j5 : Int), rq = done5 ++ rest5 → j5 = done5.length → fb = (rest5.all few && X) →
                WR2 _ _ _ _ _ (rest5.length + 1) [(1, .one (.ptr 0 0)), (3, int .i64 (IntKind.wrap .i64 ((n : Int) + 1))), (6, int .i64 j), (7, lst Part.row pp), (8, int .i64 j2), (9, int .i64 j3), (10, .one (.ptr 1 0)), (12, int .i64 j5)] [.var [.d (.list (ds.map Def.row)), .d (.list (ps.map Pol.row)), .d (.list (ms.map strow)), .d (.sc (.int .i64 dk)), .d (.sc (.int .i64 dd))], .var [.d (.sc (.string rc)), .d (.list (rp.map strow)), .d (.list (rq.map Ex.row))]]) → _) ?_
              intro rest5
              clear hr4
              induction rest5 with
              | cons x rest5 ih5 =>
                intro done5 j5 hl5 hj5 hr5
                have hlen5 : rq.length = done5.length + (rest5.length + 1) := by rw [hl5]; simp
                have hc := fewR x
                obtain ⟨xk, xo, xm, xu, xl⟩ := x
                refine wR (gI ?_)
                repeat' (first | ((first | refine C_r ?_ | refine C0_r ?_ | refine O_r ?_ | refine R_r ?_); (conv => whnf); first | (refine ⟨fun hb => ?_, fun hb => ?_⟩ <;> try exact no_way) | refine A_o ?_ | refine B_o ?_ | refine C_o ?_ | refine R_o ?_ | refine fR ?_ | refine fRk ?_ | refine F_o ?_) | refine B_l (hc) (fun h1 => ?_) fun h1 => ?_ | refine SA_l ?_ | refine V_l ?_ | refine L_l ?_ | refine Q_l ?_ | refine X_l ?_ | refine Xa_l ?_ | refine Xs_l ?_ | refine K_l ?_ | refine Ka_l ?_ | refine Lk_l ?_ | refine Up_l ?_ | refine Del_l ?_ | refine St_l ?_ | refine LU_l ?_ | refine Xw_l ?_ | refine Le_l ?_ | refine Se_l ?_ | refine M_l ?_ | refine A_l ?_ | refine A0_l ?_ | refine A1_l ?_ | refine Mk_l ?_ | refine Kz_l ?_ | refine W_l ?_ | fail)
                · refine rE (ih5 (done5 ++ [Ex.mk xk xo xm xu xl]) _ (by rw [hl5]; simp) ?_ ?_)
                  · rw [wrap_ok (by omega) (by omega)]; simp [hj5]
                  · rw [hr5]; simp [h1]
                · exact ⟨by rw [hr5]; simp [h1]; rfl, rfl⟩
              | nil =>
                intro done5 j5 hl5 hj5 hr5
                have hlen5 : rq.length = done5.length := by rw [hl5]; simp
                refine wR (gI ?_)
                refine ST wz ?_ <;> (repeat' (first | exact Wl.mk | refine wy1 ?_ ?_)) <;> repeat (intro hb; have hx := wy5 hb; clear hx)
                have g := ih3 (done3 ++ [⟨rc, rp, rq⟩]) (IntKind.wrap .i64 (j3 + 1)) (n + 1) (by rw [hl3]; simp) (by rw [wrap_ok (by omega) (by omega)]; simp [hj3]) (by rw [hr5, ← hX]; simp) hn1
                rw [← e1] at g
                exact rE g
end Go.Proofs.YtjjhckmnnaafkaaGreatDoor
namespace Go.Proofs.YtjjhckmnnaafkaaGreatDoor
open Go Go.Am Go.Proofs
attribute [local irreducible] W WL DL WO RoundEnd
set_option maxRecDepth 10000
set_option maxHeartbeats 4000000
def useN : List Part → Int → Int
  | [], n => n
  | x :: r, n => useN r (if x.use = ⟨#[]⟩ then n else n + 1)
def manyF : List Pol → Int → Int
  | [], n => n
  | x :: r, n => manyF r (if useN x.parts 0 > n then useN x.parts 0 else n)
theorem manyR (l : List Pol) (hl : l.length ≤ 2 ^ 47) (hm : ∀ p ∈ l, p.parts.length * 56 ≤ 2 ^ 47) : Comp Tryz.prog 25 [lst Pol.row l] (int .i64 (manyF l 0)) := by
  generalize hfb : manyF l 0 = fb
  refine Spec.body (C := cx [] 40) fits (fn := Tryz.f25) Tryz.func25 rfl (by decide) (by decide) (gI ?_)
  refine ST wz ?_ <;> (repeat' (first | exact Wl.mk | refine wy1 ?_ ?_)) <;> repeat (intro hb; have hx := wy5 hb; clear hx)
  refine wLoop [0, 3, 4] 0 (l.length + 1) ?_
  refine (fun key => key l [] _ _ rfl rfl hfb.symm :
    (∀ (rest done : List Pol) (j b : Int), l = done ++ rest → j = done.length → fb = manyF rest b →
    WR2 _ _ _ _ _ (rest.length + 1) [(0, lst Pol.row l), (3, int .i64 b), (4, int .i64 j)] []) → _) ?_
  intro rest
  induction rest with
  | nil =>
    intro done j b h1 hj hr
    have hlen : l.length = done.length := by rw [h1]; simp
    refine wR (gI ?_)
    refine ST wz ?_ <;> (repeat' (first | exact Wl.mk | refine wy1 ?_ ?_)) <;> repeat (intro hb; have hx := wy5 hb; clear hx)
    exact ⟨by rw [hr]; rfl, rfl⟩
  | cons x rest ih =>
    intro done j b h1 hj hr
    have hlen : l.length = done.length + (rest.length + 1) := by rw [h1]; simp
    have hx := hm x (by rw [h1]; simp)
    obtain ⟨pn, pp⟩ := x
    simp only at hx
    refine wR (gI ?_)
    refine ST wz ?_ <;> (repeat' (first | exact Wl.mk | refine wy1 ?_ ?_)) <;> repeat (intro hb; have hx := wy5 hb; clear hx)
    generalize hX : useN pp 0 = X
    refine wLoop [0, 3, 4, 5, 6] 0 (pp.length + 1) ?_
    refine (fun key => key pp [] _ 0 rfl rfl hX.symm (by simp) (by simp) :
      (∀ (rest2 done2 : List Part) (j2 n : Int), pp = done2 ++ rest2 → j2 = done2.length → X = useN rest2 n → n ≤ j2 → 0 ≤ n →
      WR2 _ _ _ _ _ (rest2.length + 1) [(0, lst Pol.row l), (3, int .i64 b), (4, int .i64 j), (5, int .i64 n), (6, int .i64 j2)] []) → _) ?_
    intro rest2
    induction rest2 with
    | nil =>
      intro done2 j2 n h2 hj2 hr2 hn hn0
      have hlen2 : pp.length = done2.length := by rw [h2]; simp
      refine wR (gI ?_)
      refine ST wz ?_ <;> (repeat' (first | exact Wl.mk | refine wy1 ?_ ?_)) <;> repeat (intro hb; have hx := wy5 hb; clear hx)
      · refine rE (ih (done ++ [⟨pn, pp⟩]) _ _ (by rw [h1]; simp) ?_ ?_)
        · rw [wrap_ok (by omega) (by omega)]; simp [hj]
        · have e : X > b := by rw [hr2, useN]; simpa using hb
          rw [hr, manyF, hX, if_pos e, hr2, useN]
      · refine rE (ih (done ++ [⟨pn, pp⟩]) _ _ (by rw [h1]; simp) ?_ ?_)
        · rw [wrap_ok (by omega) (by omega)]; simp [hj]
        · have e : ¬ X > b := by rw [hr2, useN]; simpa using hb
          rw [hr, manyF, hX, if_neg e]
    | cons y rest2 ih2 =>
      intro done2 j2 n h2 hj2 hr2 hn hn0
      have hlen2 : pp.length = done2.length + (rest2.length + 1) := by rw [h2]; simp
      obtain ⟨xu, ⟨xk, xd⟩, xr⟩ := y
      refine wR (gI ?_)
      refine ST wz ?_ <;> (repeat' (first | exact Wl.mk | refine wy1 ?_ ?_)) <;> repeat (intro hb; have hx := wy5 hb; clear hx)
      · have e : ¬ xu = ⟨#[]⟩ := by simpa [ba_beq] using hb
        refine rE (ih2 (done2 ++ [⟨xu, ⟨xk, xd⟩, xr⟩]) _ _ (by rw [h2]; simp) ?_ ?_ ?_ ?_)
        · rw [wrap_ok (by omega) (by omega)]; simp [hj2]
        · rw [hr2, wrap_ok (by omega) (by omega)]; simp only [useN, if_neg e]
        · rw [wrap_ok (by omega) (by omega), wrap_ok (by omega) (by omega)]; omega
        · rw [wrap_ok (by omega) (by omega)]; omega
      · have e : xu = ⟨#[]⟩ := by simpa [ba_beq] using hb
        refine rE (ih2 (done2 ++ [⟨xu, ⟨xk, xd⟩, xr⟩]) _ _ (by rw [h2]; simp) ?_ ?_ ?_ hn0)
        · rw [wrap_ok (by omega) (by omega)]; simp [hj2]
        · rw [hr2]; simp only [useN, if_pos e]
        · rw [wrap_ok (by omega) (by omega)]; omega
/-- the document's policies put together -/
def dupR : List Pol → List Pol → Bool
  | _, [] => false
  | d, x :: r => if d.any (fun y => y.name == x.name) then true else dupR (d ++ [x]) r
def rNamesF (g : Nat → ByteArray → (List Part × Int) × Nat) : Nat → List Part → List ByteArray → List Part × Int
  | _, out, [] => (out, 0)
  | c, out, x :: r => if (g c x).1.2 = 0 then rNamesF g (g c x).2 (out ++ (g c x).1.1) r else ([], (g c x).1.2)
def refFlat (l : List Pol) (names : List ByteArray) : List Part × Int :=
  if dupR [] l then ([], 8) else rNamesF (refF l (l.length + 1) []) 0 [] names
theorem refFlatR (l : List Pol) (names : List ByteArray) (hl : l.length ≤ 100) (hn : names.length ≤ 100) (hm : ∀ p ∈ l, p.parts.length * 56 ≤ 2 ^ 47) :
    Comp Tryz.prog 20 [lst Pol.row l, lst strow names] (.tup [.one (.d (.list ((refFlat l names).1.map Part.row))), .one (.d (.sc (.int .i64 (refFlat l names).2)))]) := by
  generalize hfb : refFlat l names = fb
  refine Spec.body (C := cx [(8, false)] 60) fits (fn := Tryz.f20) Tryz.func20 rfl (by decide) (by decide) (gI ?_)
  refine STD wz ?_ <;> (repeat' (first | exact Wl.mk | refine wy1 ?_ ?_)) <;> repeat (intro hb; have hx := wy5 hb; clear hx)
  refine wLoop [0, 1, 6] 0 (l.length + 1) ?_
  refine (fun key => key l [] _ rfl rfl rfl :
    (∀ (rest done : List Pol) (j : Int), l = done ++ rest → j = done.length → dupR [] l = dupR done rest →
    WR2 _ _ _ _ _ (rest.length + 1) [(0, lst Pol.row l), (1, lst strow names), (6, int .i64 j)] []) → _) ?_
  intro rest
  induction rest with
  | cons x rest ih =>
    intro done j h1 hj hr
    have hlen : l.length = done.length + (rest.length + 1) := by rw [h1]; simp
    obtain ⟨pn, pp⟩ := x
    refine wR (gI ?_)
    refine STD wz ?_ <;> (repeat' (first | exact Wl.mk | refine wy1 ?_ ?_)) <;> repeat (intro hb; have hx := wy5 hb; clear hx)
    refine wLoop [0, 1, 6, 7] 0 (done.length + 1) ?_
    refine (fun key => key done [] _ rfl rfl rfl :
      (∀ (rest2 done2 : List Pol) (j2 : Int), done = done2 ++ rest2 → j2 = done2.length → done.any (fun y => y.name == pn) = rest2.any (fun y => y.name == pn) →
      WR2 _ _ _ _ _ (rest2.length + 1) [(0, lst Pol.row l), (1, lst strow names), (6, int .i64 j), (7, int .i64 j2)] []) → _) ?_
    intro rest2
    induction rest2 with
    | nil =>
      intro done2 j2 h2 hj2 hr2
      have hlen2 : done.length = done2.length := by rw [h2]; simp
      refine wR (gI ?_)
      refine STD wz ?_ <;> (repeat' (first | exact Wl.mk | refine wy1 ?_ ?_)) <;> repeat (intro hb; have hx := wy5 hb; clear hx)
      have hd0 : done.any (fun y => y.name == pn) = false := by rw [hr2]; rfl
      refine rE (ih (done ++ [⟨pn, pp⟩]) _ (by rw [h1]; simp) ?_ ?_)
      · rw [wrap_ok (by omega) (by omega)]; simp [hj]
      · rw [hr]; simp only [dupR, hd0]; rfl
    | cons y rest2 ih2 =>
      intro done2 j2 h2 hj2 hr2
      have hlen2 : done.length = done2.length + (rest2.length + 1) := by rw [h2]; simp
      have g1 : l[j.toNat]? = some ⟨pn, pp⟩ := by rw [h1, hj]; simp
      have g2 : l[j2.toNat]? = some y := by rw [h1, h2, hj2]; simp
      have g3 := at_of (f := Pol.row) g1
      have g4 := at_of (f := Pol.row) g2
      obtain ⟨yn, yp⟩ := y
      refine wR (gI ?_)
      refine STD wz ?_ <;> (repeat' (first | exact Wl.mk | refine wy1 ?_ ?_)) <;> repeat (intro hb; have hx := wy5 hb; clear hx)
      · have e1 : (yn == pn) = true := hb
        have hd1 : done.any (fun y => y.name == pn) = true := by rw [hr2, List.any_cons]; simp only [e1, Bool.true_or]
        have hd2 : dupR [] l = true := by rw [hr]; simp only [dupR, hd1]; rfl
        have hfb2 : fb = ([], 8) := by rw [← hfb]; simp only [refFlat, hd2]; rfl
        exact ⟨by rw [hfb2]; rfl, rfl⟩
      · have e1 : (yn == pn) = false := hb
        refine rE (ih2 (done2 ++ [⟨yn, yp⟩]) _ (by rw [h2]; simp) ?_ ?_)
        · rw [wrap_ok (by omega) (by omega)]; simp [hj2]
        · rw [hr2, List.any_cons]; simp only [e1, Bool.false_or]
  | nil =>
    intro done j h1 hj hr
    have hlen : l.length = done.length := by rw [h1]; simp
    have hd0 : dupR [] l = false := by rw [hr]; rfl
    have hfb2 : fb = rNamesF (refF l (l.length + 1) []) 0 [] names := by rw [← hfb]; simp only [refFlat, hd0]; rfl
    refine wR (gI ?_)
    refine STD wz ?_ <;> (repeat' (first | exact Wl.mk | refine wy1 ?_ ?_)) <;> repeat (intro hb; have hx := wy5 hb; clear hx)
    refine wLoop [0, 1, 8, 9, 10] 2 (names.length + 1) ?_
    refine (fun key => key names [] _ 0 [] rfl rfl hfb2 (by omega) (Nat.zero_le _) :
      (∀ (rest done : List ByteArray) (j : Int) (c : Nat) (out : List Part), names = done ++ rest → j = done.length → fb = rNamesF (refF l (l.length + 1) []) c out rest → c ≤ 500 → out.length ≤ c →
      WR2 _ _ _ _ _ (rest.length + 1) [(0, lst Pol.row l), (1, lst strow names), (8, .one (.arr 0 0 (out.map Part.row).length)), (9, .one (.ptr 1 0)), (10, int .i64 j)] [.arr 0 false 4 (out.map Part.row), .var [.d (.sc (.int .i64 c))]]) → _) ?_
    intro rest
    induction rest with
    | nil =>
      intro done j c out h1 hj hr hc hout
      have hlen : names.length = done.length := by rw [h1]; simp
      refine wR (gI ?_)
      refine STD wz ?_ <;> (repeat' (first | exact Wl.mk | refine wy1 ?_ ?_)) <;> repeat (intro hb; have hx := wy5 hb; clear hx)
      exact ⟨by rw [hr]; rfl, rfl⟩
    | cons x rest ih =>
      intro done j c out h1 hj hr hc hout
      have hlen : names.length = done.length + (rest.length + 1) := by rw [h1]; simp
      have hq := refR l hl hm (l.length + 1) [] c x hc (by have := List.length_filter_le (fun p : Pol => !([] : List ByteArray).any (· == p.name)) l; simp only [roomR]; omega) (by simp; omega)
      have hqg := refF_good l (l.length + 1) [] c x hc
      rw [rNamesF] at hr
      generalize refF l (l.length + 1) [] c x = q at hq hqg hr
      refine wR (gI ?_)
      repeat' (first | ((first | refine C_r ?_ | refine C0_r ?_ | refine O_r ?_ | refine R_r ?_); (conv => whnf); first | (refine ⟨fun hb => ?_, fun hb => ?_⟩ <;> try exact no_way) | refine A_o ?_ | refine B_o ?_ | refine C_o ?_ | refine R_o ?_ | refine fR ?_ | refine fRk ?_ | refine F_o ?_) | refine fun k => WL.cr' [1] [.var [.d (.sc (.int .i64 c))]] _ hq rfl rfl rfl rfl rfl ⟨rfl, trivial⟩ rfl rfl rfl rfl (oW ?_ _) | refine fun k => lA fits (oW ?_ _) (hsm := by have hz : q.1.2 = 0 := (by simpa using hb); have hz2 := hqg hz; simp only [most, List.length_map]; omega) | refine SA_l ?_ | refine V_l ?_ | refine L_l ?_ | refine Q_l ?_ | refine X_l ?_ | refine Xa_l ?_ | refine Xs_l ?_ | refine K_l ?_ | refine Ka_l ?_ | refine Lk_l ?_ | refine Up_l ?_ | refine Del_l ?_ | refine St_l ?_ | refine LU_l ?_ | refine Xw_l ?_ | refine Le_l ?_ | refine Se_l ?_ | refine M_l ?_ | refine A_l ?_ | refine A0_l ?_ | refine A1_l ?_ | refine Mk_l ?_ | refine Kz_l ?_ | refine W_l ?_ | refine SA_d ?_ | refine V_d ?_ | refine L_d ?_ | refine Q_d ?_ | refine X_d ?_ | refine Xs_d ?_ | refine K_d ?_ | refine Ka_d ?_ | refine Lk_d ?_ | refine Up_d ?_ | refine A_d ?_ | refine A0_d ?_ | refine St_d ?_ | refine LU_d ?_ | refine Xw_d ?_ | refine Le_d ?_ | refine Se_d ?_ | refine M_d ?_ | refine Mk_d ?_ | refine N_d ?_ | refine Kz_d ?_ | refine W_d ?_ | fail)
      · have hz : ¬ q.1.2 = 0 := by simpa using hb
        rw [if_neg hz] at hr
        exact ⟨by rw [hr]; rfl, rfl⟩
      · have hz : q.1.2 = 0 := by simpa using hb
        rw [if_pos hz] at hr
        have hz2 := hqg hz
        have g := ih (done ++ [x]) (IntKind.wrap .i64 (j + 1)) q.2 (out ++ q.1.1) (by rw [h1]; simp) (by rw [wrap_ok (by omega) (by omega)]; simp [hj]) hr hz2.2 (by simp; omega)
        rw [List.map_append] at g
        exact rE g
end Go.Proofs.YtjjhckmnnaafkaaGreatDoor
namespace Go.Proofs.YtjjhckmnnaafkaaGreatDoor
open Go Go.Am Go.Proofs
/-- what stands under a key -/
def look {α : Type} : List (ByteArray × α) → ByteArray → Option α
  | [], _ => none
  | (k', v) :: r, k => if k = k' then some v else look r k
theorem look_fk {α : Type} (k : ByteArray) : ∀ (l : List (ByteArray × α)) (i : Nat), look l k = (fk k l i).map (·.2)
  | [], i => rfl
  | (k', v) :: r, i => by
    rw [look, fk]
    split
    · rfl
    · exact look_fk k r (i + 1)
theorem look_app {α : Type} (k : ByteArray) (m : List (ByteArray × α)) : ∀ (l : List (ByteArray × α)), look (l ++ m) k = (match look l k with | some v => some v | none => look m k)
  | [] => rfl
  | (k', v) :: r => by
    rw [List.cons_append, look, look]
    split
    · rfl
    · exact look_app k m r
theorem look_some_app {α : Type} {k : ByteArray} {v : α} {l m : List (ByteArray × α)} (h : look l k = some v) : look (l ++ m) k = some v := by rw [look_app, h]
theorem look_none_app {α : Type} {k : ByteArray} {l m : List (ByteArray × α)} (h : look l k = none) : look (l ++ m) k = look m k := by rw [look_app, h]
theorem fk_look_none {α : Type} {k : ByteArray} {l : List (ByteArray × α)} : fk k l 0 = none ↔ look l k = none := by
  rw [look_fk k l 0]; simp
/-- a list of parts with what is known in place of uses -/
def expand (K : AL (List Part)) (ps : List Part) : List Part := ps.flatMap fun x => if x.use = ⟨#[]⟩ then [x] else (look K x.use).getD []
def allIn (K : AL (List Part)) (ps : List Part) : Prop := ∀ x ∈ ps, x.use ≠ ⟨#[]⟩ → ∃ v, look K x.use = some v
inductive Good (m : AL (List Part)) : AL (List Part) → Prop
  | nil : Good m []
  | snoc {K : AL (List Part)} {name : ByteArray} {ps : List Part} : Good m K → look m name = some ps → allIn K ps → look K name = none → Good m (K ++ [(name, expand K ps)])
theorem goodParts {K : AL (List Part)} {g : Nat → ByteArray → (List Part × Int) × Nat} (hg : ∀ q qs, look K q = some qs → ∀ c, c ≤ 500 → (c + qs.length > 500 → (g c q).1 = ([], 9)) ∧ (c + qs.length ≤ 500 → g c q = ((qs, 0), c + qs.length))) :
    ∀ (ps : List Part) (c : Nat) (out : List Part), allIn K ps → c ≤ 500 → (c + (expand K ps).length > 500 → (rPartsF g c out ps).1 = ([], 9)) ∧ (c + (expand K ps).length ≤ 500 → rPartsF g c out ps = ((out ++ expand K ps, 0), c + (expand K ps).length))
  | [], c, out, _, hc => by
    constructor
    · intro h; simp [expand] at h; omega
    · intro _; simp [expand, rPartsF]
  | x :: r, c, out, h, hc => by
    have hr : allIn K r := fun y hy => h y (by simp [hy])
    by_cases hx : x.use = ⟨#[]⟩
    · have e : expand K (x :: r) = x :: expand K r := by simp [expand, hx]
      rw [e]; simp only [rPartsF, if_pos hx, List.length_cons]
      by_cases h5 : c + 1 > 500
      · rw [if_pos h5]
        exact ⟨fun _ => rfl, fun h6 => by omega⟩
      · rw [if_neg h5]
        have ih := goodParts hg r (c + 1) (out ++ [x]) hr (by omega)
        refine ⟨fun h6 => ih.1 (by omega), fun h6 => ?_⟩
        rw [ih.2 (by omega)]
        simp; omega
    · obtain ⟨v, hv⟩ := h x (by simp) hx
      have e : expand K (x :: r) = v ++ expand K r := by simp [expand, hx, hv]
      rw [e]; simp only [rPartsF, if_neg hx, List.length_append]
      have g1 := hg x.use v hv c hc
      by_cases h5 : c + v.length > 500
      · rw [if_neg (by rw [g1.1 h5]; decide)]
        refine ⟨fun _ => by rw [g1.1 h5], fun h6 => by omega⟩
      · rw [g1.2 (by omega)]
        simp only [if_true]
        have ih := goodParts hg r (c + v.length) (out ++ v) hr (by omega)
        refine ⟨fun h6 => ih.1 (by omega), fun h6 => ?_⟩
        rw [ih.2 (by omega)]
        simp; omega
theorem any_eq {op : List ByteArray} {k : ByteArray} : op.any (· == k) = false ↔ k ∉ op := by
  rw [Bool.eq_false_iff, Ne, List.any_eq_true]
  constructor
  · intro h hk; exact h ⟨k, hk, by simp [ba_beq]⟩
  · rintro h ⟨x, hx, hk⟩; rw [ba_beq, decide_eq_true_eq] at hk; exact h (hk ▸ hx)
theorem goodRef {m : AL (List Part)} {l : List Pol} (hlm : ∀ name, lastOf l name = look m name) {K : AL (List Part)} (hK : Good m K) : ∀ (q : ByteArray) (qs : List Part), look K q = some qs → ∀ (n : Nat) (op : List ByteArray), (∀ k v, look K k = some v → k ∉ op) → roomR l op < n → ∀ c, c ≤ 500 →
    (c + qs.length > 500 → (refF l n op c q).1 = ([], 9)) ∧ (c + qs.length ≤ 500 → refF l n op c q = ((qs, 0), c + qs.length)) := by
  induction hK with
  | nil => intro q qs h; simp [look] at h
  | @snoc K name ps hK h1 h2 h3 ih =>
    intro q qs hq n op hop hn c hc
    rw [look_app] at hq
    cases hk : look K q with
    | some v =>
      rw [hk] at hq
      injection hq with hq; subst hq
      exact ih q v hk n op (fun k w hw => hop k w (look_some_app hw)) hn c hc
    | none =>
      rw [hk] at hq
      simp only [look] at hq
      split at hq
      · rename_i he; subst he
        injection hq with hq; subst hq
        cases n with
        | zero => omega
        | succ n =>
          have hnot : q ∉ op := hop q (expand K ps) (by rw [look_none_app h3]; simp [look])
          have e1 : lastOf l q = some ps := by rw [hlm, h1]
          have e2 : op.any (· == q) = false := any_eq.2 hnot
          have e3 : refF l (n + 1) op c q = rPartsF (refF l n (op ++ [q])) c [] ps := by simp only [refF, e1, e2]; rfl
          rw [e3]
          have hlt := roomR_lt e1 e2
          have := goodParts (K := K) (g := refF l n (op ++ [q])) (fun p pv hp c hc => ih p pv hp n (op ++ [q]) (fun k w hw => by
            intro hmem
            rcases List.mem_append.1 hmem with h4 | h4
            · exact hop k w (look_some_app hw) h4
            · simp at h4; subst h4; rw [h3] at hw; simp at hw) (by omega) c hc) ps c [] h2 hc
          simpa using this
      · simp at hq
/-- the two ways hold the same -/
def Rel (m : AL (List Part)) (s : Fl) : Prop := Good m s.known ∧ ∀ k v, look s.known k = some v → look s.within k = none
theorem setK_new {α : Type} {l : AL α} {k : ByteArray} {v : α} (h : look l k = none) : setK l k v = l ++ [(k, v)] := by
  have := fk_look_none.2 h
  simp only [setK, this]
theorem look_within {w : AL Unit} {k : ByteArray} : look w k = none ↔ k ∉ w.map (·.1) := by
  rw [← fk_look_none, fk_none]
theorem partsSim {m : AL (List Part)} {l : List Pol} {n n' : Nat} {W : AL Unit}
    (IH : ∀ (s : Fl) (name : ByteArray), s.ok → Rel m s → s.within = W →
      (polF m n s name).1 = (refF l n' (W.map (·.1)) s.out.length name).1.2 ∧ ((refF l n' (W.map (·.1)) s.out.length name).1.2 ≠ 0 → (refF l n' (W.map (·.1)) s.out.length name).1.1 = []) ∧
      ((polF m n s name).1 = 0 → Rel m (polF m n s name).2 ∧ (∃ E, (polF m n s name).2.known = s.known ++ E) ∧ (polF m n s name).2.out = s.out ++ (refF l n' (W.map (·.1)) s.out.length name).1.1 ∧
        (refF l n' (W.map (·.1)) s.out.length name).2 = (polF m n s name).2.out.length ∧ look (polF m n s name).2.known name = some (refF l n' (W.map (·.1)) s.out.length name).1.1)) :
    ∀ (rest : List Part) (t : Fl) (b rout : List Part), t.ok → Rel m t → t.within = W → t.out = b ++ rout →
      (partsF (polF m n) t rest).1 = (rPartsF (refF l n' (W.map (·.1))) t.out.length rout rest).1.2 ∧ ((rPartsF (refF l n' (W.map (·.1))) t.out.length rout rest).1.2 ≠ 0 → (rPartsF (refF l n' (W.map (·.1))) t.out.length rout rest).1.1 = []) ∧
      ((partsF (polF m n) t rest).1 = 0 → Rel m (partsF (polF m n) t rest).2 ∧ (∃ E, (partsF (polF m n) t rest).2.known = t.known ++ E) ∧ (partsF (polF m n) t rest).2.out = b ++ (rPartsF (refF l n' (W.map (·.1))) t.out.length rout rest).1.1 ∧
        (rPartsF (refF l n' (W.map (·.1))) t.out.length rout rest).2 = (partsF (polF m n) t rest).2.out.length ∧
        (rPartsF (refF l n' (W.map (·.1))) t.out.length rout rest).1.1 = rout ++ expand (partsF (polF m n) t rest).2.known rest ∧ allIn (partsF (polF m n) t rest).2.known rest)
  | [], t, b, rout, ht, hR, hW, ho => by
    refine ⟨rfl, fun h => absurd rfl h, fun _ => ⟨hR, ⟨[], by simp [partsF]⟩, ho, rfl, by simp [rPartsF, expand], fun x hx => by simp at hx⟩⟩
  | x :: r, t, b, rout, ht, hR, hW, ho => by
    by_cases hx : x.use = ⟨#[]⟩
    · simp only [partsF, rPartsF, if_pos hx]
      by_cases h5 : t.out.length + 1 > 500
      · have e : (addF t [x]).1 = 9 := by simp [addF, addE]; omega
        rw [if_pos h5, e]
        refine ⟨by simp [e], fun _ => rfl, fun h => ?_⟩
        simp [e] at h
      · have e : (addF t [x]).1 = 0 := by simp [addF, addE]; omega
        rw [if_neg h5, if_pos e]
        have hg := addF_good ht e
        have ih := partsSim IH r (addF t [x]).2 b (rout ++ [x]) hg.1 hR (by rw [hg.2.1, hW]) (by simp [addF, ho])
        have el : (addF t [x]).2.out.length = t.out.length + 1 := by simp [addF]
        rw [el] at ih
        refine ⟨ih.1, ih.2.1, fun h => ?_⟩
        obtain ⟨a1, ⟨E, a2⟩, a3, a4, a5, a6⟩ := ih.2.2 h
        refine ⟨a1, ⟨E, a2⟩, a3, a4, by rw [a5]; simp [expand, hx], fun y hy => ?_⟩
        rcases List.mem_cons.1 hy with rfl | hy
        · exact fun h => absurd hx h
        · exact a6 y hy
    · simp only [partsF, rPartsF, if_neg hx]
      obtain ⟨b1, b2, b3⟩ := IH t x.use ht hR hW
      have hgood := polF_good m n t x.use ht
      by_cases hz : (polF m n t x.use).1 = 0
      · rw [if_pos hz, if_pos (b1 ▸ hz)]
        obtain ⟨c1, ⟨E, c2⟩, c3, c4, c5⟩ := b3 hz
        have hg := hgood hz
        have ih := partsSim IH r (polF m n t x.use).2 b (rout ++ (refF l n' (W.map (·.1)) t.out.length x.use).1.1) hg.1 c1 (by rw [hg.2.1, hW]) (by rw [c3, ho]; simp)
        rw [← c4] at ih
        refine ⟨ih.1, ih.2.1, fun h => ?_⟩
        obtain ⟨a1, ⟨E', a2⟩, a3, a4, a5, a6⟩ := ih.2.2 h
        have hl : look (partsF (polF m n) (polF m n t x.use).2 r).2.known x.use = some (refF l n' (W.map (·.1)) t.out.length x.use).1.1 := by rw [a2]; exact look_some_app c5
        refine ⟨a1, ⟨E ++ E', by rw [a2, c2]; simp⟩, a3, a4, ?_, fun y hy => ?_⟩
        · rw [a5]; simp [expand, hx, hl]
        · rcases List.mem_cons.1 hy with rfl | hy
          · exact fun _ => ⟨_, hl⟩
          · exact a6 y hy
      · rw [if_neg hz, if_neg (b1 ▸ hz)]
        exact ⟨b1, fun h => rfl, fun h => absurd h hz⟩
theorem polSim {m : AL (List Part)} {l : List Pol} (hlm : ∀ name, lastOf l name = look m name) : ∀ (n n' : Nat) (s : Fl) (name : ByteArray), s.ok → Rel m s → room m s.within < n → roomR l (s.within.map (·.1)) < n' →
      (polF m n s name).1 = (refF l n' (s.within.map (·.1)) s.out.length name).1.2 ∧ ((refF l n' (s.within.map (·.1)) s.out.length name).1.2 ≠ 0 → (refF l n' (s.within.map (·.1)) s.out.length name).1.1 = []) ∧
      ((polF m n s name).1 = 0 → Rel m (polF m n s name).2 ∧ (∃ E, (polF m n s name).2.known = s.known ++ E) ∧ (polF m n s name).2.out = s.out ++ (refF l n' (s.within.map (·.1)) s.out.length name).1.1 ∧
        (refF l n' (s.within.map (·.1)) s.out.length name).2 = (polF m n s name).2.out.length ∧ look (polF m n s name).2.known name = some (refF l n' (s.within.map (·.1)) s.out.length name).1.1)
  | 0, _, s, name, _, _, h, _ => by omega
  | _ + 1, 0, s, name, _, _, _, h => by omega
  | n + 1, n' + 1, s, name, hs, hR, hn, hn' => by
    cases h1 : fk name m 0 with
    | none =>
      have e1 : lastOf l name = none := by rw [hlm, look_fk name m 0, h1]; rfl
      have e2 : refF l (n' + 1) (s.within.map (·.1)) s.out.length name = (([], 7), s.out.length) := by simp only [refF, e1]
      have e3 : polF m (n + 1) s name = (7, s) := by simp only [polF, h1]
      rw [e2, e3]
      exact ⟨rfl, fun _ => rfl, fun h => by simp at h⟩
    | some ip =>
    obtain ⟨i1, ps⟩ := ip
    have e1 : lastOf l name = some ps := by rw [hlm, look_fk name m 0, h1]; rfl
    cases h2 : fk name s.within 0 with
    | some iw =>
      obtain ⟨i2, w2⟩ := iw
      have e0 : name ∈ s.within.map (·.1) := Classical.byContradiction fun hc => by rw [fk_none.2 hc] at h2; simp at h2
      have e4 : (s.within.map (·.1)).any (· == name) = true := by
        cases h : (s.within.map (·.1)).any (· == name) with
        | true => rfl
        | false => exact absurd e0 (any_eq.1 h)
      have e2 : refF l (n' + 1) (s.within.map (·.1)) s.out.length name = (([], 5), s.out.length) := by simp only [refF, e1, e4]; rfl
      have e3 : polF m (n + 1) s name = (5, s) := by simp only [polF, h1, h2]
      rw [e2, e3]
      exact ⟨rfl, fun _ => rfl, fun h => by simp at h⟩
    | none =>
    have e4 : (s.within.map (·.1)).any (· == name) = false := any_eq.2 (fk_none.1 h2)
    cases h3 : fk name s.known 0 with
    | some ik =>
      obtain ⟨i3, qs⟩ := ik
      have hq : look s.known name = some qs := by rw [look_fk name s.known 0, h3]; rfl
      have e3 : polF m (n + 1) s name = addF s qs := by simp only [polF, h1, h2, h3]
      have hc := goodRef hlm hR.1 name qs hq (n' + 1) (s.within.map (·.1)) (fun k v hk => look_within.1 (hR.2 k v hk)) hn' s.out.length hs.1
      rw [e3]
      by_cases h5 : s.out.length + qs.length > 500
      · have e : (addF s qs).1 = 9 := by simp [addF, addE]; omega
        rw [hc.1 h5, e]
        exact ⟨rfl, fun _ => rfl, fun h => by simp at h⟩
      · have e : (addF s qs).1 = 0 := by simp [addF, addE]; omega
        rw [hc.2 (by omega), e]
        refine ⟨rfl, fun h => absurd rfl h, fun _ => ⟨hR, ⟨[], by simp [addF]⟩, rfl, by simp [addF], hq⟩⟩
    | none =>
    have hk : look s.known name = none := fk_look_none.1 h3
    have e2 : refF l (n' + 1) (s.within.map (·.1)) s.out.length name = rPartsF (refF l n' (s.within.map (·.1) ++ [name])) s.out.length [] ps := by simp only [refF, e1, e4]; rfl
    have e5 : s.within.map (·.1) ++ [name] = (s.within ++ [(name, ())]).map (·.1) := by simp
    have hRt : Rel m { s with within := s.within ++ [(name, ())] } := by
      refine ⟨hR.1, fun k v hkv => ?_⟩
      show look (s.within ++ [(name, ())]) k = none
      rw [look_none_app (hR.2 k v hkv)]
      simp only [look]
      split
      · rename_i he; subst he; rw [hk] at hkv; simp at hkv
      · rfl
    have hsim := partsSim (m := m) (l := l) (n := n) (n' := n') (W := s.within ++ [(name, ())]) (fun t nm ht hRt hW => by
      have := polSim hlm n n' t nm ht hRt (by rw [hW]; have := room_lt h1 h2; omega) (by rw [hW, ← e5]; have := roomR_lt e1 e4; omega)
      rw [hW] at this; exact this) ps { s with within := s.within ++ [(name, ())] } s.out [] hs hRt rfl (by simp)
    have hgood := partsF_good (polF_good m n) ps { s with within := s.within ++ [(name, ())] } hs
    rw [← e5, ← e2] at hsim
    have e3 : polF m (n + 1) s name = (if (partsF (polF m n) { s with within := s.within ++ [(name, ())] } ps).1 = 0 then (0, { within := delK (partsF (polF m n) { s with within := s.within ++ [(name, ())] } ps).2.within name, known := setK (partsF (polF m n) { s with within := s.within ++ [(name, ())] } ps).2.known name ((partsF (polF m n) { s with within := s.within ++ [(name, ())] } ps).2.out.drop s.out.length), out := (partsF (polF m n) { s with within := s.within ++ [(name, ())] } ps).2.out }) else (partsF (polF m n) { s with within := s.within ++ [(name, ())] } ps)) := by simp only [polF, h1, h2, h3]
    rw [e3]
    generalize partsF (polF m n) { s with within := s.within ++ [(name, ())] } ps = p at hsim hgood
    simp only at hsim
    generalize refF l (n' + 1) (s.within.map (·.1)) s.out.length name = q at hsim
    obtain ⟨a1, a2, a3⟩ := hsim
    by_cases hz : p.1 = 0
    · rw [if_pos hz]
      obtain ⟨c1, ⟨E, c2⟩, c3, c4, c5, c6⟩ := a3 hz
      have hg := hgood hz
      have hkn : look p.2.known name = none := by
        cases hc : look p.2.known name with
        | none => rfl
        | some v =>
          have := c1.2 name v hc
          rw [hg.2.1] at this
          rw [look_none_app (fk_look_none.1 h2)] at this
          simp [look] at this
      have hdrop : p.2.out.drop s.out.length = q.1.1 := by rw [c3]; simp
      have hw : delK p.2.within name = s.within := by rw [hg.2.1]; exact delK_last h2
      have hval : q.1.1 = expand p.2.known ps := by rw [c5]; simp
      simp only [hdrop, hw, setK_new hkn]
      refine ⟨by rw [← a1, hz], a2, fun _ => ⟨⟨?_, ?_⟩, ⟨E ++ [(name, q.1.1)], by rw [c2]; simp⟩, c3, c4, ?_⟩⟩
      · show Good m (p.2.known ++ [(name, q.1.1)])
        rw [hval]
        exact .snoc c1.1 (by rw [look_fk name m 0, h1]; rfl) c6 hkn
      · intro k v hkv
        show look s.within k = none
        simp only at hkv
        cases hc : look p.2.known k with
        | some u =>
          have := c1.2 k u hc
          rw [hg.2.1, look_app] at this
          cases h6 : look s.within k with
          | none => rfl
          | some _ => rw [h6] at this; simp at this
        | none =>
          rw [look_none_app hc] at hkv
          simp only [look] at hkv
          split at hkv
          · rename_i he; subst he; exact fk_look_none.1 h2
          · simp at hkv
      · rw [look_none_app hkn]; simp [look]
    · rw [if_neg hz]
      exact ⟨a1, a2, fun h => absurd h hz⟩
end Go.Proofs.YtjjhckmnnaafkaaGreatDoor
namespace Go.Proofs.YtjjhckmnnaafkaaGreatDoor
open Go Go.Am Go.Proofs
theorem Ex.eqb_refl : (∀ e : Ex, e.eqb e = true) := by
  intro e
  exact Ex.rec (motive_1 := fun e => e.eqb e = true) (motive_2 := fun l => Ex.eqbs l l = true) (fun k o n u l ih => by simp [Ex.eqb, ba_beq, ih]) rfl (fun x l h1 h2 => by simp [Ex.eqbs, h1, h2]) e
theorem pw_refl {α : Type} {f : α → α → Bool} (h : ∀ x, f x x = true) : ∀ l : List α, pw f l l = true
  | [] => rfl
  | x :: l => by simp [pw, h, pw_refl h l]
theorem Ex.eqbs_refl : ∀ l : List Ex, Ex.eqbs l l = true
  | [] => rfl
  | x :: l => by simp [Ex.eqbs, Ex.eqb_refl, Ex.eqbs_refl l]
theorem Rule.eqb_refl (r : Rule) : r.eqb r = true := by simp [Rule.eqb, ba_beq, pw_refl, Ex.eqbs_refl]
theorem Part.eqb_refl (r : Part) : r.eqb r = true := by simp [Part.eqb, Act.eqb, ba_beq, pw_refl Rule.eqb_refl]
end Go.Proofs.YtjjhckmnnaafkaaGreatDoor
namespace Go.Proofs.YtjjhckmnnaafkaaGreatDoor
open Go Go.Am Go.Proofs
theorem namesSim {m : AL (List Part)} {l : List Pol} {n n' : Nat} (hlm : ∀ name, lastOf l name = look m name) (hn : room m [] < n) (hn' : roomR l [] < n') :
    ∀ (names : List ByteArray) (s : Fl), s.ok → Rel m s → s.within = [] →
      (namesF (polF m n) s names).1 = (rNamesF (refF l n' []) s.out.length s.out names).2 ∧ ((rNamesF (refF l n' []) s.out.length s.out names).2 ≠ 0 → (rNamesF (refF l n' []) s.out.length s.out names).1 = []) ∧
      ((namesF (polF m n) s names).1 = 0 → (namesF (polF m n) s names).2.out = (rNamesF (refF l n' []) s.out.length s.out names).1)
  | [], s, hs, hR, hw => ⟨rfl, fun h => absurd rfl h, fun _ => rfl⟩
  | x :: r, s, hs, hR, hw => by
    have h := polSim hlm n n' s x hs hR (by rw [hw]; exact hn) (by rw [hw]; exact hn')
    have hg := polF_good m n s x hs
    rw [hw] at h
    simp only [List.map_nil] at h
    simp only [namesF, rNamesF]
    generalize polF m n s x = p at h hg ⊢
    generalize refF l n' [] s.out.length x = q at h ⊢
    obtain ⟨a1, a2, a3⟩ := h
    by_cases hz : p.1 = 0
    · rw [if_pos hz, if_pos (a1 ▸ hz)]
      obtain ⟨c1, _, c3, c4, _⟩ := a3 hz
      have hg := hg hz
      have ih := namesSim hlm hn hn' r p.2 hg.1 c1 (by rw [hg.2.1, hw])
      rw [← c4, c3] at ih
      exact ih
    · rw [if_neg hz, if_neg (a1 ▸ hz)]
      exact ⟨a1, fun _ => rfl, fun h => absurd h hz⟩
theorem rParts_use {g : Nat → ByteArray → (List Part × Int) × Nat} (hg : ∀ c s, ∀ x ∈ (g c s).1.1, x.use = ⟨#[]⟩) : ∀ (ps : List Part) (c : Nat) (out : List Part), (∀ x ∈ out, x.use = ⟨#[]⟩) → ∀ x ∈ (rPartsF g c out ps).1.1, x.use = ⟨#[]⟩
  | [], c, out, ho => ho
  | x :: r, c, out, ho => by
    simp only [rPartsF]
    split
    · rename_i hx
      split
      · intro y hy; simp at hy
      · refine rParts_use hg r _ _ fun y hy => ?_
        rcases List.mem_append.1 hy with hy | hy
        · exact ho y hy
        · simp at hy; subst hy; exact hx
    · split
      · refine rParts_use hg r _ _ fun y hy => ?_
        rcases List.mem_append.1 hy with hy | hy
        · exact ho y hy
        · exact hg _ _ y hy
      · intro y hy; simp at hy
theorem refF_use (l : List Pol) : ∀ (n : Nat) (op : List ByteArray) (c : Nat) (name : ByteArray), ∀ x ∈ (refF l n op c name).1.1, x.use = ⟨#[]⟩
  | 0, op, c, name => by intro x hx; simp [refF] at hx
  | n + 1, op, c, name => by
    simp only [refF]
    split
    · intro x hx; simp at hx
    · split
      · intro x hx; simp at hx
      · exact rParts_use (refF_use l n (op ++ [name])) _ _ _ (by intro x hx; simp at hx)
theorem rNames_use {l : List Pol} {n : Nat} : ∀ (names : List ByteArray) (c : Nat) (out : List Part), (∀ x ∈ out, x.use = ⟨#[]⟩) → ∀ x ∈ (rNamesF (refF l n []) c out names).1, x.use = ⟨#[]⟩
  | [], c, out, ho => ho
  | x :: r, c, out, ho => by
    simp only [rNamesF]
    split
    · refine rNames_use r _ _ fun y hy => ?_
      rcases List.mem_append.1 hy with hy | hy
      · exact ho y hy
      · exact refF_use l n [] _ _ y hy
    · intro y hy; simp at hy
theorem strip_same : ∀ {l : List Part}, (∀ x ∈ l, x.use = ⟨#[]⟩) → l.map Part.strip = l
  | [], _ => rfl
  | x :: r, h => by
    rw [List.map_cons, strip_same fun y hy => h y (by simp [hy])]
    have hx := h x (by simp)
    obtain ⟨u, a, b⟩ := x
    simp only at hx; subst hx; rfl
theorem dup_eq : ∀ (r d : List Pol), dup (polsM d) r = dupR d r
  | [], d => rfl
  | x :: r, d => by
    have e : (fk x.name (polsM d) 0).isSome = d.any (fun y => y.name == x.name) := by
      rw [Bool.eq_iff_iff, List.any_eq_true]
      constructor
      · intro h
        have : x.name ∈ (polsM d).map (·.1) := Classical.byContradiction fun hc => by rw [fk_none.2 hc] at h; simp at h
        simp only [polsM, List.map_map, List.mem_map, Function.comp] at this
        obtain ⟨y, hy, he⟩ := this
        exact ⟨y, hy, by rw [ba_beq, he]; simp⟩
      · rintro ⟨y, hy, he⟩
        rw [ba_beq, decide_eq_true_eq] at he
        cases hf : fk x.name (polsM d) 0 with
        | some _ => rfl
        | none =>
          have := fk_none.1 hf
          exact absurd (by simp only [polsM, List.map_map, List.mem_map, Function.comp]; exact ⟨y, hy, he⟩) this
    simp only [dup, dupR, e]
    rw [← polsM_app', dup_eq r (d ++ [x])]
theorem dupR_out : ∀ (r d : List Pol), dupR d r = false → (r.map (·.name)).Nodup ∧ ∀ x ∈ r, ∀ y ∈ d, y.name ≠ x.name
  | [], d, _ => ⟨List.nodup_nil, by intro x hx; simp at hx⟩
  | x :: r, d, h => by
    simp only [dupR] at h
    split at h
    · simp at h
    · rename_i hn
      obtain ⟨h1, h2⟩ := dupR_out r (d ++ [x]) h
      rw [List.map_cons, List.nodup_cons]
      refine ⟨⟨fun hm => ?_, h1⟩, fun z hz y hy => ?_⟩
      · obtain ⟨z, hz, he⟩ := List.mem_map.1 hm
        exact h2 z hz x (by simp) he.symm
      · rcases List.mem_cons.1 hz with rfl | hz
        · intro he
          exact hn (List.any_eq_true.2 ⟨y, hy, by rw [ba_beq, he]; simp⟩)
        · exact h2 z hz y (by simp [hy])
theorem lastOf_look : ∀ (l : List Pol) (name : ByteArray), (l.map (·.name)).Nodup → lastOf l name = look (polsM l) name
  | [], name, _ => rfl
  | x :: r, name, h => by
    rw [List.map_cons, List.nodup_cons] at h
    have ih := lastOf_look r name h.2
    show (match lastOf r name with | some p => some p | none => if x.name = name then some x.parts else none) = (if name = x.name then some x.parts else look (polsM r) name)
    rw [← ih]
    by_cases hx : name = x.name
    · subst hx
      have : lastOf r x.name = none := by
        cases hc : lastOf r x.name with
        | none => rfl
        | some ps =>
          obtain ⟨p, hp, hn, _⟩ := lastOf_mem hc
          exact absurd (List.mem_map.2 ⟨p, hp, hn⟩) h.1
      simp [this]
    · rw [if_neg hx, if_neg (fun h => hx h.symm)]
      cases lastOf r name <;> rfl
/-- both ways give the same -/
theorem flat_same (l : List Pol) (names : List ByteArray) : flatF l names = refFlat l names := by
  have hd : dup [] l = dupR [] l := dup_eq l []
  unfold flatF refFlat
  rw [hd]
  cases hdd : dupR [] l with
  | true => rfl
  | false =>
    have hlm := fun name => lastOf_look l name (dupR_out l [] hdd).1
    have h := namesSim (m := polsM l) (l := l) (n := l.length + 1) (n' := l.length + 1) hlm (by have := room_le (polsM l) []; simp [polsM] at this ⊢; omega)
      (by have := List.length_filter_le (fun p : Pol => !([] : List ByteArray).any (· == p.name)) l; simp only [roomR]; omega) names startF ⟨by decide, by intro p hp; cases hp⟩ ⟨.nil, by intro k v h; simp [startF, look] at h⟩ rfl
    have hu := rNames_use (l := l) (n := l.length + 1) names 0 [] (by intro x hx; simp at hx)
    have e : startF.out.length = 0 := rfl
    have e2 : startF.out = [] := rfl
    rw [e, e2] at h
    simp only [Bool.false_eq_true, if_false]
    generalize namesF (polF (polsM l) (l.length + 1)) startF names = p at h ⊢
    generalize rNamesF (refF l (l.length + 1) []) 0 [] names = q at h hu ⊢
    obtain ⟨a1, a2, a3⟩ := h
    by_cases hz : p.1 = 0
    · rw [if_pos hz, a3 hz, strip_same hu]
      rw [hz] at a1
      exact Prod.ext rfl a1
    · rw [if_neg hz]
      have hq := a1 ▸ hz
      exact Prod.ext (a2 hq).symm a1
end Go.Proofs.YtjjhckmnnaafkaaGreatDoor
