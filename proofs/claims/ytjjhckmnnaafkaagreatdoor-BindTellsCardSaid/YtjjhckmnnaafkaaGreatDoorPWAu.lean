/- A part of a proof: functions of the program walked over the abstract machine, and what they compute. -/
import Derived.Test.YtjjhckmnnaafkaaGreatDoorPWAt
set_option linter.unusedVariables false
set_option linter.unusedSimpArgs false
namespace Go.Proofs.YtjjhckmnnaafkaaGreatDoor
open Go Go.Am Go.Proofs
attribute [local irreducible] W WL DL WO RoundEnd
set_option maxRecDepth 10000
set_option maxHeartbeats 4000000
theorem ixF_cons (s x : ByteArray) (r : List ByteArray) (j : Int) : ixF s (x :: r) j = if x == s then j else ixF s r (j + 1) := by
  rw [ixF, ba_beq, ba_beq]
  by_cases h : s = x
  · subst h; rfl
  · rw [if_neg (by simpa using h), if_neg (by simpa using fun e => h e.symm)]
theorem cndD (ds : List Def) (ps : List ByteArray) (hds : ds.length < 2 ^ 40) (hdn : ∀ d ∈ ds, d.expr.nok) (hps : ps.length < 2 ^ 60) : ∀ (n : Nat) (e : Ex), e.size < n → e.nok → e.ok → condOk e →
    Comp Tryz.prog 50 [lst Def.row ds, lst strow ps, .agg (e.row.map .d)] (cdV (cndF ds ps e)) := by
  intro n
  induction n with
  | zero => intro e h; omega
  | succ n IH =>
  intro e hs hk hok hc
  obtain ⟨k, o, nm, u, l⟩ := e
  by_cases h4 : k = 4
  · subst h4
    clear IH
    rw [cndF_4]
    obtain ⟨o, n, u, k, v, he, hk6⟩ := hc.1 rfl
    simp only [Ex.mk.injEq, true_and] at he
    obtain ⟨rfl, rfl, rfl, rfl⟩ := he
    have hA : atomF ds ps (.mk 4 o nm u [k, v]) = (if ixF k.name ps 0 < 0 then (cd0, 7)
      else if (maskF ds k).2 = 0 then
        (if (valOf ds v).2 = 0 then (.mk 5 ⟨ixF k.name ps 0, opF o, (maskF ds k).1, (valOf ds v).1⟩ [], 0) else (cd0, (valOf ds v).2))
      else (cd0, (maskF ds k).2)) := rfl
    rw [hA]
    have c2 := opD o
    have c3 := constD _ ds (Nat.lt_succ_self _) hds hdn _ v (Nat.lt_succ_self _) hk.2.2.1
    change Comp Tryz.prog _ _ (cvV (valOf ds v)) at c3
    clear hA
    by_cases h6 : k.kind = 6
    · obtain ⟨o', n', u', x, rfl⟩ := hk6 h6
      have c4 := constD _ ds (Nat.lt_succ_self _) hds hdn _ x (Nat.lt_succ_self _) hk.2.1.2.1
      change Comp Tryz.prog _ _ (cvV (valOf ds x)) at c4
      have hm : maskF ds (.mk 6 o' n' u' [x]) = valOf ds x := by unfold maskF; rw [if_pos h6]; rfl
      rw [hm]
      generalize valOf ds x = q at *
      generalize valOf ds v = p at *
      simp only [show (Ex.mk 6 o' n' u' [x]).name = n' from rfl]
      generalize ha : ixF n' ps 0 = a
      obtain ⟨p1, p2⟩ := p
      obtain ⟨q1, q2⟩ := q
      obtain ⟨xk, xo, xm, xu, xl⟩ := x
      obtain ⟨vk, vo, vm, vu, vl⟩ := v
      unfold cvV at c3 c4
      refine Spec.body (C := cx [] 128) fits (fn := Tryz.f50) Tryz.func50 rfl (by decide) (by decide) (gI ?_)
      refine STD (wc c2 wz) ?_ <;> (repeat' (first | exact Wl.mk | refine wy1 ?_ ?_)) <;> repeat (intro hb; have hx := wy5 hb; clear hx)
      refine wLoop [0, 1, 5, 6, 13, 14, 15] 4 (ps.length + 1) ?_
      refine (fun key => key ps [] _ _ rfl rfl (.inl ⟨rfl, ha.symm⟩) :
        (∀ (rest done : List ByteArray) (j arg : Int), ps = done ++ rest → j = done.length → (arg = -1 ∧ a = ixF n' rest j ∨ arg = a ∧ 0 ≤ a) →
        WR2 _ _ _ _ _ (rest.length + 1) [(0, lst Def.row ds), (1, lst strow ps), (5, .one (.ptr 0 0)), (6, .one (.ptr 1 0)), (13, .one (.ptr 2 0)), (14, .one (.ptr 3 0)), (15, int .i64 j)]
          [.var ((Ex.mk 4 o nm u [Ex.mk 6 o' n' u' [Ex.mk xk xo xm xu xl], Ex.mk vk vo vm vu vl]).row.map .d), .var [.d (.sc (.int .i64 0)), .d (.sc (.int .i64 0)), .d (.sc (.int .i64 0)), .d (.sc (.int .u64 0)), .d (.sc (.int .u64 0)), .d (.sc (.slice none 0 0))],
           .var ((Ex.mk 6 o' n' u' [Ex.mk xk xo xm xu xl]).row.map .d), .var [.d (.sc (.int .i64 arg)), .d (.sc (.int .i64 (opF o))), .d (.sc (.int .u64 18446744073709551615)), .d (.sc (.int .u64 0))]]) → _) ?_
      intro rest
      induction rest with
      | nil =>
        intro done j arg h1 hj hr
        have hlen : ps.length = done.length := by rw [h1]; simp
        rcases hr with ⟨rfl, hr⟩ | ⟨rfl, hr⟩
        · have hr : a = -1 := hr
          refine wR (gI ?_)
          refine STD wz ?_ <;> (repeat' (first | exact Wl.mk | refine wy1 ?_ ?_)) <;> repeat (intro hb; have hx := wy5 hb; clear hx)
          exact ⟨by rw [if_pos (by omega)]; rfl, rfl⟩
        · have ba : decide (arg < 0) = false := by simpa using hr
          refine wR (gI ?_)
          refine STD (wc c3 (wc c4 wz)) ?_ <;> (repeat' (first | exact Wl.mk | refine wy1 ?_ ?_)) <;> repeat (intro hb; have hx := wy5 hb; clear hx)
          all_goals first
            | (have h2 : (!(q2 == 0)) = true := (by assumption); exact ⟨by rw [if_neg (bl0 ba), if_neg (bz1 h2)]; rfl, rfl⟩)
            | (have h2 : (!(q2 == 0)) = false := (by assumption); have h3 : (!(p2 == 0)) = true := (by assumption); exact ⟨by rw [if_neg (bl0 ba), if_pos (bz0 h2), if_neg (bz1 h3)]; rfl, rfl⟩)
            | (have h2 : (!(q2 == 0)) = false := (by assumption); have h3 : (!(p2 == 0)) = false := (by assumption); exact ⟨by rw [if_neg (bl0 ba), if_pos (bz0 h2), if_pos (bz0 h3)]; rfl, rfl⟩)
      | cons x rest ih =>
        intro done j arg h1 hj hr
        have hlen : ps.length = done.length + (rest.length + 1) := by rw [h1]; simp
        rcases hr with ⟨rfl, hr⟩ | ⟨rfl, hr⟩
        · have gx := at_mid (f := strow) h1 hj
          have g := fun arg' => ih (done ++ [x]) (IntKind.wrap .i64 (j + 1)) arg' (by rw [h1]; simp) (by rw [wrap_ok (by omega) (by omega)]; simp [hj])
          rw [ixF_cons] at hr
          refine wR (gI ?_)
          refine STD wz ?_ <;> (repeat' (first | exact Wl.mk | refine wy1 ?_ ?_)) <;> repeat (intro hb; have hx := wy5 hb; clear hx)
          · rw [if_pos hb] at hr
            exact rE (g j (.inr ⟨hr.symm, by omega⟩))
          · rw [if_neg (by rw [hb]; decide)] at hr
            exact rE (g _ (.inl ⟨rfl, by rw [hr, wrap_ok (by omega) (by omega)]⟩))
        · have ba : decide (arg < 0) = false := by simpa using hr
          refine wR (gI ?_)
          refine STD (wc c3 (wc c4 wz)) ?_ <;> (repeat' (first | exact Wl.mk | refine wy1 ?_ ?_)) <;> repeat (intro hb; have hx := wy5 hb; clear hx)
          all_goals first
            | (have h2 : (!(q2 == 0)) = true := (by assumption); exact ⟨by rw [if_neg (bl0 ba), if_neg (bz1 h2)]; rfl, rfl⟩)
            | (have h2 : (!(q2 == 0)) = false := (by assumption); have h3 : (!(p2 == 0)) = true := (by assumption); exact ⟨by rw [if_neg (bl0 ba), if_pos (bz0 h2), if_neg (bz1 h3)]; rfl, rfl⟩)
            | (have h2 : (!(q2 == 0)) = false := (by assumption); have h3 : (!(p2 == 0)) = false := (by assumption); exact ⟨by rw [if_neg (bl0 ba), if_pos (bz0 h2), if_pos (bz0 h3)]; rfl, rfl⟩)
    · have hm : maskF ds k = (allBits, 0) := by unfold maskF; rw [if_neg h6]
      rw [hm]
      generalize valOf ds v = p at *
      obtain ⟨kk, ko, kn, ku, kl⟩ := k
      have h6 : ¬ kk = 6 := h6
      have b6 : (kk == 6) = false := by simpa using h6
      simp only [show (Ex.mk kk ko kn ku kl).name = kn from rfl]
      generalize ha : ixF kn ps 0 = a
      obtain ⟨p1, p2⟩ := p
      obtain ⟨vk, vo, vm, vu, vl⟩ := v
      unfold cvV at c3
      refine Spec.body (C := cx [] 128) fits (fn := Tryz.f50) Tryz.func50 rfl (by decide) (by decide) (gI ?_)
      refine STD (wc c2 wz) ?_ <;> (repeat' (first | exact Wl.mk | refine wy1 ?_ ?_)) <;> repeat (intro hb; have hx := wy5 hb; clear hx)
      refine wLoop [0, 1, 5, 6, 13, 14, 15] 4 (ps.length + 1) ?_
      refine (fun key => key ps [] _ _ rfl rfl (.inl ⟨rfl, ha.symm⟩) :
        (∀ (rest done : List ByteArray) (j arg : Int), ps = done ++ rest → j = done.length → (arg = -1 ∧ a = ixF kn rest j ∨ arg = a ∧ 0 ≤ a) →
        WR2 _ _ _ _ _ (rest.length + 1) [(0, lst Def.row ds), (1, lst strow ps), (5, .one (.ptr 0 0)), (6, .one (.ptr 1 0)), (13, .one (.ptr 2 0)), (14, .one (.ptr 3 0)), (15, int .i64 j)]
          [.var ((Ex.mk 4 o nm u [Ex.mk kk ko kn ku kl, Ex.mk vk vo vm vu vl]).row.map .d), .var [.d (.sc (.int .i64 0)), .d (.sc (.int .i64 0)), .d (.sc (.int .i64 0)), .d (.sc (.int .u64 0)), .d (.sc (.int .u64 0)), .d (.sc (.slice none 0 0))],
           .var ((Ex.mk kk ko kn ku kl).row.map .d), .var [.d (.sc (.int .i64 arg)), .d (.sc (.int .i64 (opF o))), .d (.sc (.int .u64 18446744073709551615)), .d (.sc (.int .u64 0))]]) → _) ?_
      intro rest
      induction rest with
      | nil =>
        intro done j arg h1 hj hr
        have hlen : ps.length = done.length := by rw [h1]; simp
        rcases hr with ⟨rfl, hr⟩ | ⟨rfl, hr⟩
        · have hr : a = -1 := hr
          refine wR (gI ?_)
          refine STD wz ?_ <;> (repeat' (first | exact Wl.mk | refine wy1 ?_ ?_)) <;> repeat (intro hb; have hx := wy5 hb; clear hx)
          exact ⟨by rw [if_pos (by omega)]; rfl, rfl⟩
        · have ba : decide (arg < 0) = false := by simpa using hr
          refine wR (gI ?_)
          refine STD (wc c3 wz) ?_ <;> (repeat' (first | exact Wl.mk | refine wy1 ?_ ?_)) <;> repeat (intro hb; have hx := wy5 hb; clear hx)
          all_goals first
            | (have h3 : (!(p2 == 0)) = true := (by assumption); exact ⟨by rw [if_neg (bl0 ba), if_pos trivial, if_neg (bz1 h3)]; rfl, rfl⟩)
            | (have h3 : (!(p2 == 0)) = false := (by assumption); exact ⟨by rw [if_neg (bl0 ba), if_pos trivial, if_pos (bz0 h3)]; rfl, rfl⟩)
      | cons x rest ih =>
        intro done j arg h1 hj hr
        have hlen : ps.length = done.length + (rest.length + 1) := by rw [h1]; simp
        rcases hr with ⟨rfl, hr⟩ | ⟨rfl, hr⟩
        · have gx := at_mid (f := strow) h1 hj
          have g := fun arg' => ih (done ++ [x]) (IntKind.wrap .i64 (j + 1)) arg' (by rw [h1]; simp) (by rw [wrap_ok (by omega) (by omega)]; simp [hj])
          rw [ixF_cons] at hr
          refine wR (gI ?_)
          refine STD wz ?_ <;> (repeat' (first | exact Wl.mk | refine wy1 ?_ ?_)) <;> repeat (intro hb; have hx := wy5 hb; clear hx)
          · rw [if_pos hb] at hr
            exact rE (g j (.inr ⟨hr.symm, by omega⟩))
          · rw [if_neg (by rw [hb]; decide)] at hr
            exact rE (g _ (.inl ⟨rfl, by rw [hr, wrap_ok (by omega) (by omega)]⟩))
        · have ba : decide (arg < 0) = false := by simpa using hr
          refine wR (gI ?_)
          refine STD (wc c3 wz) ?_ <;> (repeat' (first | exact Wl.mk | refine wy1 ?_ ?_)) <;> repeat (intro hb; have hx := wy5 hb; clear hx)
          all_goals first
            | (have h3 : (!(p2 == 0)) = true := (by assumption); exact ⟨by rw [if_neg (bl0 ba), if_pos trivial, if_neg (bz1 h3)]; rfl, rfl⟩)
            | (have h3 : (!(p2 == 0)) = false := (by assumption); exact ⟨by rw [if_neg (bl0 ba), if_pos trivial, if_pos (bz0 h3)]; rfl, rfl⟩)
  · have b4 : (k == 4) = false := by simpa using h4
    have hc2 : (k = 1 ∨ k = 2 ∨ k = 3) ∧ condsOk l := by
      rcases hc.2 with h | h
      · exact absurd h h4
      · exact h
    obtain ⟨hk3, hcl⟩ := hc2
    rw [cndF_n _ _ _ _ _ _ _ h4]
    generalize hfb : cndsF ds ps l [] = fb
    have hll : l.length ≤ 2000000000000 := by have := hok.1; omega
    have hkl := hk.2
    have hokl := hok.2
    have el : Ex.rows l = l.map Ex.row := Ex.rows_eq l
    simp only [Ex.row, el, List.map_cons, List.map_nil]
    obtain ⟨w, hw⟩ : ∃ w, ckF k = w := ⟨_, rfl⟩
    rw [hw]
    clear hc hok hk
    refine Spec.body (C := cx [] 128) fits (fn := Tryz.f50) Tryz.func50 rfl (by decide) (by decide) (gI ?_)
    rcases hk3 with rfl | rfl | rfl
    all_goals
      simp only [ck1, ck2, ck3] at hw
      subst hw
      refine ST wz ?_ <;> (repeat' (first | exact Wl.mk | refine wy1 ?_ ?_)) <;> repeat (intro hb; have hx := wy5 hb; clear hx)
      refine gA 2 5 false 6 ?_
      refine wLoop [0, 1, 5, 6, 9, 10] 4 (l.length + 1) ?_
      refine (fun key => key l [] _ [] rfl rfl hfb.symm (Nat.le_refl _) :
        (∀ (rest done : List Ex) (j : Int) (out : List Cd), l = done ++ rest → j = done.length → fb = cndsF ds ps rest out → out.length ≤ done.length →
        WR2 _ _ _ _ _ (rest.length + 1) [(0, lst Def.row ds), (1, lst strow ps), (5, .one (.ptr 0 0)), (6, .one (.ptr 1 0)), (9, .one (.ptr 2 0)), (10, int .i64 j)]
          [.var [.d (.sc (.int .i64 _)), .d (.sc (.string o)), .d (.sc (.string nm)), .d (.sc (.int .u64 u)), .d (.list (l.map Ex.row))],
           .var [.d (.sc (.int .i64 0)), .d (.sc (.int .i64 0)), .d (.sc (.int .i64 0)), .d (.sc (.int .u64 0)), .d (.sc (.int .u64 0)), .d (.sc (.slice none 0 0))],
           .var [.d (.sc (.int .i64 _)), .d (.sc (.int .i64 0)), .d (.sc (.int .i64 0)), .d (.sc (.int .u64 0)), .d (.sc (.int .u64 0)), .arr 3 0 (out.map Cd.row).length], .arr 0 false 6 (out.map Cd.row)]) → _) ?_
      intro rest
      induction rest with
      | nil =>
        intro done j out h1 hj hr ho
        have hlen : l.length = done.length := by rw [h1]; simp
        refine wR (gI ?_)
        refine ST wz ?_ <;> (repeat' (first | exact Wl.mk | refine wy1 ?_ ?_)) <;> repeat (intro hb; have hx := wy5 hb; clear hx)
        rw [cndsF] at hr
        exact ⟨by rw [hr, if_pos rfl]; simp only [cdV, Cd.row, Cd.rows_eq]; rfl, rfl⟩
      | cons x rest ih =>
        intro done j out h1 hj hr ho
        have hlen : l.length = done.length + (rest.length + 1) := by rw [h1]; simp
        have hxm : x ∈ l := by rw [h1]; simp
        have gx := at_mid (f := Ex.row) h1 hj
        have hcx := IH x (by have := Ex.size_mem hxm; rw [Ex.size] at hs; omega) (noks_mem hkl hxm) (Ex.oks_mem hokl hxm) (condsOk_mem hcl hxm)
        have g := fun out' => ih (done ++ [x]) (IntKind.wrap .i64 (j + 1)) out' (by rw [h1]; simp) (by rw [wrap_ok (by omega) (by omega)]; simp [hj])
        rw [cndsF] at hr
        generalize cndF ds ps x = q at hcx hr
        obtain ⟨⟨ck, ⟨c2, c3, c4, c5⟩, cl⟩, q2⟩ := q
        obtain ⟨xk, xo, xm, xu, xl⟩ := x
        refine wR (gI ?_)
        refine ST (wc hcx wz) ?_ <;> (repeat' (first | exact Wl.mk | refine wy1 ?_ ?_)) <;> repeat (intro hb; have hx := wy5 hb; clear hx)
        · have hz := bz1 hb
          rw [if_neg hz] at hr
          exact ⟨by rw [hr, if_neg hz]; rfl, rfl⟩
        · have hz := bz0 hb
          rw [if_pos hz] at hr
          have g := g _ hr (by simp; omega)
          rw [List.map_append] at g
          exact rE g
end Go.Proofs.YtjjhckmnnaafkaaGreatDoor
