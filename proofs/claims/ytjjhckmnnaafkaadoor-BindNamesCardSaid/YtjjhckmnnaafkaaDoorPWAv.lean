/- A part of a proof: functions of the program walked over the abstract machine, and what they compute. -/
import Derived.Test.YtjjhckmnnaafkaaDoorPWAu
set_option linter.unusedVariables false
set_option linter.unusedSimpArgs false
namespace Go.Proofs.YtjjhckmnnaafkaaDoor
open Go Go.Am Go.Proofs
attribute [local irreducible] W WL DL WO RoundEnd
set_option maxRecDepth 10000
set_option maxHeartbeats 4000000
/-- the calls of an architecture, and its number -/
def callsOf (a : ByteArray) : Option (List Cal) := if a = arch0 then some calL0 else if a = arch1 then some calL1 else if a = arch2 then some calL2 else none
def archN (a : ByteArray) : Int := if a = arch0 then 3221225655 else if a = arch1 then 1073741827 else if a = arch2 then 3221225534 else 0
theorem calls_small (a : ByteArray) (l : List Cal) (h : callsOf a = some l) : l.length < 2 ^ 40 ∧ ∀ x ∈ l, x.ps.length ≤ 100 := by
  have h0 : calL0.length < 2 ^ 40 ∧ (calL0.all fun x => decide (x.ps.length ≤ 100)) = true := by decide
  have h1 : calL1.length < 2 ^ 40 ∧ (calL1.all fun x => decide (x.ps.length ≤ 100)) = true := by decide
  have h2 : calL2.length < 2 ^ 40 ∧ (calL2.all fun x => decide (x.ps.length ≤ 100)) = true := by decide
  unfold callsOf at h
  split at h
  · injection h with h; subst h
    exact ⟨h0.1, fun x hx => by simpa using List.all_eq_true.1 h0.2 x hx⟩
  · split at h
    · injection h with h; subst h
      exact ⟨h1.1, fun x hx => by simpa using List.all_eq_true.1 h1.2 x hx⟩
    · split at h
      · injection h with h; subst h
        exact ⟨h2.1, fun x hx => by simpa using List.all_eq_true.1 h2.2 x hx⟩
      · cases h
theorem archB (a : ByteArray) : Comp Tryd.prog 15 [str a] (t2 (archN a) (callsOf a).isSome) ∧ ∀ l, callsOf a = some l → ∀ c, Comp Tryd.prog 35 [str a, str c] (foundV Cal.row1 (l.find? fun x => x.name == c)) := by
  have hs := calls_small a
  unfold callsOf archN at *
  split
  · rename_i h; subst h
    exact ⟨nu0, fun l hl c => by rw [if_pos rfl] at hs; have := (hs l hl).1; injection hl with hl; subst hl; exact findR _ c _ this all0⟩
  · rename_i h0
    rw [if_neg h0] at hs
    split
    · rename_i h; subst h
      exact ⟨nu1, fun l hl c => by rw [if_pos rfl] at hs; have := (hs l hl).1; injection hl with hl; subst hl; exact findR _ c _ this all1⟩
    · rename_i h1
      rw [if_neg h1] at hs
      split
      · rename_i h; subst h
        exact ⟨nu2, fun l hl c => by rw [if_pos rfl] at hs; have := (hs l hl).1; injection hl with hl; subst hl; exact findR _ c _ this all2⟩
      · rename_i h2
        exact ⟨nuNo a (by rw [ba_beq]; simpa [arch0] using h0) (by rw [ba_beq]; simpa [arch1] using h1) (by rw [ba_beq]; simpa [arch2] using h2), fun l hl => by cases hl⟩
/-- a part that may be bound -/
def Part.fine (p : Part) : Prop := p.rules.length ≤ 12 ∧ ∀ r ∈ p.rules, r.params.length ≤ 10 ∧ r.cond.length ≤ 1 ∧ condsFine r.cond
/-- a unit that is small -/
structure Un.fit (u : Un) : Prop where
  good : u.good
  defs : u.defs.length ≤ 12
  nok : ∀ d ∈ u.defs, d.expr.nok
  pols : u.pols.length ≤ 100
  main : u.main.length ≤ 100
  parts : ∀ p ∈ u.pols, p.parts.length * 56 ≤ 2 ^ 47
  ok : ∀ p ∈ u.pols, ∀ x ∈ p.parts, x.ok
  fine : rightF u = true → ∀ p ∈ u.pols, ∀ x ∈ p.parts, x.fine
theorem few_fit {u : Un} (h : fewUnit u = true) : u.fit := by
  have ho := fewUnit_out h
  simp only [fewUnit, Bool.and_eq_true, decide_eq_true_eq, List.all_eq_true] at h
  obtain ⟨h1, h2, h3, h4, h5, h6, _⟩ := h
  have hd : ∀ d ∈ u.defs, few d.expr = true := fun d hd => by
    have := h4 d hd
    simp only [fewDef, Bool.and_eq_true] at this
    exact this.1
  refine ⟨ho.1, h1, fun d hdm => (few_size (hd d hdm)).2, by omega, by omega, fun p hp => ?_, fun p hp x hx => ?_, fun hr p hp x hx => ?_⟩
  · have := h6 p hp
    simp only [fewPol, Bool.and_eq_true, decide_eq_true_eq] at this
    omega
  · have := h6 p hp
    simp only [fewPol, Bool.and_eq_true, decide_eq_true_eq, List.all_eq_true] at this
    exact (fewPart_out (this.2.2 x hx)).2
  · have hf := h6 p hp
    simp only [fewPol, Bool.and_eq_true, decide_eq_true_eq, List.all_eq_true] at hf
    have hx2 := hf.2.2 x hx
    simp only [fewPart, Bool.and_eq_true, decide_eq_true_eq, List.all_eq_true] at hx2
    simp only [rightF, Bool.and_eq_true, List.all_eq_true] at hr
    have hp2 := hr.2.1 p hp
    simp only [polRF, Bool.and_eq_true, List.all_eq_true] at hp2
    have hpr := hp2.2 x hx
    refine ⟨hx2.2.1, fun r hrm => ?_⟩
    have hfr := hx2.2.2 r hrm
    simp only [fewRule, Bool.and_eq_true, decide_eq_true_eq, List.all_eq_true] at hfr
    rw [partRF] at hpr
    split at hpr
    · simp only [Bool.and_eq_true, List.all_eq_true] at hpr
      have hrr := hpr.2 r hrm
      simp only [ruleF, Bool.and_eq_true, decide_eq_true_eq, List.all_eq_true] at hrr
      refine ⟨hfr.2.1, hrr.2.2.1, fun e he => ?_⟩
      have hcf := hrr.2.2.2 e he
      simp only [condF, Bool.and_eq_true] at hcf
      have hfe := hfr.2.2.2.2 e he
      exact ⟨(few_size hfe).2, few_ok hfe, cond_of_bool _ e (Nat.lt_succ_self _) hcf.1⟩
    · simp only [Bool.and_eq_true, beq_iff_eq, List.length_map] at hpr
      have hl : x.rules.length = 0 := by have := hpr.2.2; omega
      rw [List.length_eq_zero_iff.1 hl] at hrm
      cases hrm
theorem flatF_all {P : Part → Prop} (hP : ∀ x, P x → P x.strip) (l : List Pol) (names : List ByteArray) (hr : ∀ p ∈ l, ∀ x ∈ p.parts, P x) : ∀ x ∈ (flatF l names).1, P x := by
  unfold flatF
  split
  · intro x hx; simp at hx
  · simp only
    have h := namesF_out (P := P) (polsM l) (by intro p hp; obtain ⟨q, hq, rfl⟩ := List.mem_map.1 hp; exact hr q hq) (l.length + 1) names startF ⟨by decide, by intro p hp; cases hp⟩ ⟨(by intro p hp; cases hp), (by intro p hp; cases hp)⟩
    split
    · rename_i hz
      have h := h hz
      intro x hx
      obtain ⟨y, hy, rfl⟩ := List.mem_map.1 hx
      exact hP _ (h.2.1 y hy)
    · intro x hx; simp at hx
def bdsV (q : List Bd × Int) : V := .tup [.one (.d (.list (q.1.map Bd.row))), .one (.d (.sc (.int .i64 q.2)))]
def ruleG (u : Un) (l : List Cal) (r : Rule) (act : Act) : Bd × Int := bruleF u.defs (calO (l.find? fun x => x.name == r.call)) r act
/-- all rules of a unit -/
def rulesF (u : Un) (L : Option (List Cal)) : List Bd × Int :=
  match L with
  | none => ([], 1)
  | some l => if rightF u = true then
      (if (tableF [] [] 0 u.defs).2 = 0 then
        (if (flatF u.pols u.main).2 = 0 then bpartsF (ruleG u l) (flatF u.pols u.main).1 [] else ([], (flatF u.pols u.main).2))
      else ([], (tableF [] [] 0 u.defs).2))
    else ([], 1)
theorem rulesB (u : Un) (a : ByteArray) (hu : u.fit) : Comp Tryd.prog 7 [.agg u.cells, str a] (bdsV (rulesF u (callsOf a))) := by
  obtain ⟨c1, c2⟩ := archB a
  have hsm := calls_small a
  have c3 := rightR u hu.good
  have c4 := tableR u.defs (by have := hu.defs; omega) hu.nok
  have c5 := flatR u.pols u.main hu.pols hu.main hu.parts hu.ok
  have hfl := (flatF_out u.pols u.main hu.ok).1
  have hff : rightF u = true → ∀ x ∈ (flatF u.pols u.main).1, x.fine := fun h => flatF_all (fun x hx => hx) u.pols u.main (hu.fine h)
  have hrb := fun (l : List Cal) (h : callsOf a = some l) (r : Rule) (act : Act) (k1 : r.params.length ≤ 10) (k2 : r.cond.length ≤ 1) (k3 : condsFine r.cond) =>
    ruleB u a r act (l.find? fun x => x.name == r.call) (c2 l h r.call) (fun x hx => (hsm l h).2 x (List.mem_of_find?_eq_some hx)) (by omega) k2 k3 (by have := hu.defs; omega) hu.nok
  change ∀ (l : List Cal) (h : callsOf a = some l) (r : Rule) (act : Act) (k1 : r.params.length ≤ 10) (k2 : r.cond.length ≤ 1) (k3 : condsFine r.cond), Comp Tryd.prog 19 [.agg u.cells, str a, .agg (r.row.map .d), .agg (act.row.map .d)] (bdV (ruleG u l r act)) at hrb
  clear hu c2 hsm
  unfold rulesF
  generalize callsOf a = L at *
  generalize archN a = n at *
  cases L with
  | none =>
    obtain ⟨ds, ps, ms, ⟨dk, dd⟩⟩ := u
    simp only at *
    refine Spec.body (C := cx [(13, false)] 85) fits (fn := Tryd.f7) Tryd.func7 rfl (by decide) (by decide) (gI ?_)
    refine ST (wc c1 wz) ?_ <;> (repeat' (first | exact Wl.mk | refine wy1 ?_ ?_)) <;> repeat (intro hb; have hx := wy5 hb; clear hx)
    exact ⟨rfl, rfl⟩
  | some l =>
    have hrb2 := hrb l rfl
    clear hrb
    simp only
    generalize ruleG u l = G at *
    cases hR : rightF u with
    | false =>
      rw [hR] at c3
      obtain ⟨ds, ps, ms, ⟨dk, dd⟩⟩ := u
      simp only at *
      refine Spec.body (C := cx [(13, false)] 85) fits (fn := Tryd.f7) Tryd.func7 rfl (by decide) (by decide) (gI ?_)
      refine ST (wc c1 (wc c3 wz)) ?_ <;> (repeat' (first | exact Wl.mk | refine wy1 ?_ ?_)) <;> repeat (intro hb; have hx := wy5 hb; clear hx)
      exact ⟨rfl, rfl⟩
    | true =>
      rw [hR] at c3
      have hff2 := hff hR
      clear hff
      rw [if_pos rfl]
      generalize tableF [] [] 0 u.defs = T at *
      generalize flatF u.pols u.main = F at *
      obtain ⟨⟨T1, T2⟩, T3⟩ := T
      obtain ⟨F1, F2⟩ := F
      obtain ⟨ds, ps, ms, ⟨dk, dd⟩⟩ := u
      unfold tabV at c4
      simp only at *
      generalize hfb : (if T3 = 0 then (if F2 = 0 then bpartsF G F1 [] else ([], F2)) else ([], T3)) = fb
      refine Spec.body (C := cx [(13, false)] 85) fits (fn := Tryd.f7) Tryd.func7 rfl (by decide) (by decide) (gI ?_)
      refine ST (wc c1 (wc c3 (wc c4 (wc c5 wz)))) ?_ <;> (repeat' (first | exact Wl.mk | refine wy1 ?_ ?_)) <;> repeat (intro hb; have hx := wy5 hb; clear hx)
      · exact ⟨by rw [← hfb, if_neg (bz1 hb)]; rfl, rfl⟩
      · exact ⟨by rw [← hfb, if_pos (bz0 ‹_›), if_neg (bz1 hb)]; rfl, rfl⟩
      rw [if_pos (bz0 ‹(!(T3 == 0)) = false›), if_pos (bz0 ‹(!(F2 == 0)) = false›)] at hfb
      refine wLoop [1, 2, 13, 53, 54, 55] 2 (F1.length + 1) ?_
      refine (fun key => key F1 [] _ [] rfl rfl hfb.symm (Nat.zero_le _) :
        (∀ (rest done : List Part) (j : Int) (out : List Bd), F1 = done ++ rest → j = done.length → fb = bpartsF G rest out → out.length ≤ 12 * done.length →
        WR2 _ _ _ _ _ (rest.length + 1) [(1, str a), (2, .one (.ptr 0 0)), (13, .one (.arr 1 0 (out.map Bd.row).length)), (53, lst Part.row F1), (54, int .i64 (F1.map Part.row).length), (55, int .i64 j)]
          [.var (Un.cells ⟨ds, ps, ms, ⟨dk, dd⟩⟩), .arr 0 false 9 (out.map Bd.row)]) → _) ?_
      intro rest
      induction rest with
      | nil =>
        intro done j out h1 hj hr ho
        have hlen : F1.length = done.length := by rw [h1]; simp
        refine wR (gI ?_)
        refine ST wz ?_ <;> (repeat' (first | exact Wl.mk | refine wy1 ?_ ?_)) <;> repeat (intro hb; have hx := wy5 hb; clear hx)
        exact ⟨by rw [hr]; rfl, rfl⟩
      | cons p rest ih =>
        intro done j out h1 hj hr ho
        have hlen : F1.length = done.length + (rest.length + 1) := by rw [h1]; simp
        have gp := at_mid (f := Part.row) h1 hj
        have hpf := hff2 p (by rw [h1]; simp)
        have gn := fun out' => ih (done ++ [p]) (IntKind.wrap .i64 (j + 1)) out' (by rw [h1]; simp) (by rw [wrap_ok (by omega) (by omega)]; simp [hj])
        rw [bpartsF] at hr
        obtain ⟨pu, ⟨pk, pd⟩, pr⟩ := p
        obtain ⟨hp1, hp2⟩ := hpf
        simp only at hp1 hp2 hr
        refine wR (gI ?_)
        refine ST wz ?_ <;> (repeat' (first | exact Wl.mk | refine wy1 ?_ ?_)) <;> repeat (intro hb; have hx := wy5 hb; clear hx)
        refine wLoop [1, 2, 13, 15, 53, 54, 55, 60, 61, 62] 3 (pr.length + 1) ?_
        refine (fun key => key pr [] _ out rfl rfl rfl (Nat.le_refl _) :
          (∀ (rest2 done2 : List Rule) (j2 : Int) (out2 : List Bd), pr = done2 ++ rest2 → j2 = done2.length → brulesF G ⟨pk, pd⟩ pr out = brulesF G ⟨pk, pd⟩ rest2 out2 → out2.length ≤ out.length + done2.length →
          WR2 _ _ _ _ _ (rest2.length + 1) [(1, str a), (2, .one (.ptr 0 0)), (13, .one (.arr 1 0 (out2.map Bd.row).length)), (15, .one (.ptr 2 0)), (53, lst Part.row F1), (54, int .i64 (F1.map Part.row).length), (55, int .i64 j), (60, lst Rule.row pr), (61, int .i64 (pr.map Rule.row).length), (62, int .i64 j2)]
            [.var (Un.cells ⟨ds, ps, ms, ⟨dk, dd⟩⟩), .arr 0 false 9 (out2.map Bd.row), .var [.d (.sc (.string pu)), .d (.sc (.int .i64 pk)), .d (.sc (.int .i64 pd)), .d (.list (pr.map Rule.row))]]) → _) ?_
        intro rest2
        induction rest2 with
        | nil =>
          intro done2 j2 out2 h2 hj2 hr2 ho2
          have hlen2 : pr.length = done2.length := by rw [h2]; simp
          rw [hr2, brulesF, if_pos rfl] at hr
          refine wR (gI ?_)
          refine ST wz ?_ <;> (repeat' (first | exact Wl.mk | refine wy1 ?_ ?_)) <;> repeat (intro hb; have hx := wy5 hb; clear hx)
          exact rE (gn out2 hr (by simp; omega))
        | cons x rest2 ih2 =>
          intro done2 j2 out2 h2 hj2 hr2 ho2
          have hlen2 : pr.length = done2.length + (rest2.length + 1) := by rw [h2]; simp
          have gx := at_mid (f := Rule.row) h2 hj2
          obtain ⟨x1, x2, x3⟩ := hp2 x (by rw [h2]; simp)
          have cx2 := hrb2 x ⟨pk, pd⟩ x1 x2 x3
          rw [brulesF] at hr2
          have gn2 := fun out' => ih2 (done2 ++ [x]) (IntKind.wrap .i64 (j2 + 1)) out' (by rw [h2]; simp) (by rw [wrap_ok (by omega) (by omega)]; simp [hj2])
          generalize G x ⟨pk, pd⟩ = q at cx2 hr2
          obtain ⟨xc, xp, xd⟩ := x
          obtain ⟨⟨qn, ⟨qk, qd⟩, ⟨q0, ⟨q1, q2, q3, q4⟩, q5⟩⟩, q6⟩ := q
          unfold bdV at cx2
          simp only at cx2 hr2
          refine wR (gI ?_)
          refine ST (wc cx2 wz) ?_ <;> (repeat' (first | exact Wl.mk | refine wy1 ?_ ?_)) <;> repeat (intro hb; have hx := wy5 hb; clear hx)
          · rw [if_neg (bz1 hb)] at hr2
            have h6 : ¬ (([] : List Bd), q6).2 = 0 := bz1 hb
            rw [hr2, if_neg h6] at hr
            exact ⟨by rw [hr]; rfl, rfl⟩
          · rw [if_pos (bz0 hb)] at hr2
            have g := gn2 _ hr2 (by simp; omega)
            rw [List.map_append] at g
            exact rE g
end Go.Proofs.YtjjhckmnnaafkaaDoor
namespace Go.Proofs.YtjjhckmnnaafkaaDoor
open Go Go.Am Go.Proofs
attribute [local irreducible] W WL DL WO RoundEnd
set_option maxRecDepth 10000
set_option maxHeartbeats 4000000
theorem num16 (e : Int) : Comp Tryd.prog 9 [int .i64 e] (int .i64 e) := by
  refine Spec.body (C := cx [] 4) fits (fn := Tryd.f9) Tryd.func9 rfl (by decide) (by decide) (gI ?_)
  refine ST wz ?_ <;> (repeat' (first | exact Wl.mk | refine wy1 ?_ ?_)) <;> repeat (intro hb; have hx := wy5 hb; clear hx)
  exact ⟨rfl, rfl⟩
def u16a : Un := ⟨[], [], [], ⟨0, 0⟩⟩
def u16b : Un := ⟨[], [⟨⟨#[112]⟩, [⟨⟨#[]⟩, ⟨7, 0⟩, [⟨⟨#[119, 114, 105, 116, 101]⟩, [], []⟩]⟩]⟩], [⟨#[112]⟩], ⟨6, 0⟩⟩
theorem alive16 : Comp Tryd.prog 4 [] (bool true) := by
  have h1 := rulesB u16a arch2 (few_fit (by with_unfolding_all rfl))
  have h2 := rulesB u16b arch2 (few_fit (by with_unfolding_all rfl))
  have e1 : rulesF u16a (callsOf arch2) = ([], 1) := by with_unfolding_all rfl
  have e2 : rulesF u16b (callsOf arch2) = ([⟨1, ⟨7, 0⟩, .mk 1 atm0 []⟩], 0) := by with_unfolding_all rfl
  rw [e1] at h1
  rw [e2] at h2
  have h3 := num16 0
  have h4 := num16 1
  unfold u16a arch2 at h1
  unfold u16b arch2 at h2
  unfold bdsV at h1 h2
  refine Spec.body (C := cx [] 44) fits (fn := Tryd.f4) Tryd.func4 rfl (by decide) (by decide) (gI ?_)
  refine ST (wc h1 (wc h2 (wc h3 (wc h4 wz)))) ?_ <;> (repeat' (first | exact Wl.mk | refine wy1 ?_ ?_)) <;> repeat (intro hb; have hx := wy5 hb; clear hx)
  exact ⟨rfl, rfl⟩
end Go.Proofs.YtjjhckmnnaafkaaDoor
namespace Go.Proofs.YtjjhckmnnaafkaaDoor
open Go Go.Am Go.Proofs
attribute [local irreducible] W WL DL WO RoundEnd
set_option maxRecDepth 10000
set_option maxHeartbeats 4000000
def pP : ByteArray := ⟨#[112]⟩
def oneE (name op : ByteArray) (v : Int) : Ex := .mk 4 op ⟨#[]⟩ 0 [.mk 5 ⟨#[]⟩ name 0 [], .mk 7 ⟨#[]⟩ ⟨#[]⟩ v []]
def oneU (call : ByteArray) (ps : List ByteArray) (name op : ByteArray) (v : Int) : Un := ⟨[], [⟨pP, [⟨⟨#[]⟩, ⟨7, 0⟩, [⟨call, ps, [oneE name op v]⟩]⟩]⟩], [pP], ⟨6, 0⟩⟩
theorem oneR1 (call : ByteArray) (ps : List ByteArray) (name op : ByteArray) (v : Int) : Comp Tryd.prog 8 [str call, lst strow ps, str name, str op, int .u64 v] (.agg (oneU call ps name op v).cells) := by
  refine Spec.body (C := cx [] 33) fits (fn := Tryd.f8) Tryd.func8 rfl (by decide) (by decide) (gI ?_)
  refine ST wz ?_ <;> (repeat' (first | exact Wl.mk | refine wy1 ?_ ?_)) <;> repeat (intro hb; have hx := wy5 hb; clear hx)
  exact ⟨rfl, rfl⟩
theorem few_one {name op : ByteArray} {v : Int} (hn : name.size ≤ 60) (ho : op.size ≤ 20) : few (oneE name op v) = true := by
  have h0 : (⟨#[]⟩ : ByteArray).size = 0 := rfl
  simp only [few, oneE, sizeF, sizesF, h0]
  rw [decide_eq_true_eq]
  repeat (first | rw [if_neg (by omega)] | rw [if_pos (by omega)])
  omega
theorem fewU_one {call : ByteArray} {ps : List ByteArray} {name op : ByteArray} {v : Int} (hc : call.size ≤ 60) (hl : ps.length ≤ 10) (hp : ∀ s ∈ ps, s.size ≤ 60) (hn : name.size ≤ 60) (ho : op.size ≤ 20) : fewUnit (oneU call ps name op v) = true := by
  have h0 : (⟨#[]⟩ : ByteArray).size = 0 := rfl
  have h1 : pP.size = 1 := rfl
  simp only [fewUnit, oneU, fewPol, fewPart, fewRule, few_one hn ho, List.all_cons, List.all_nil, List.length_cons, List.length_nil, Bool.and_true, Bool.true_and, Bool.and_eq_true, decide_eq_true_eq, List.all_eq_true, h0, h1, ruleNs, ruleN, List.map_cons, List.map_nil, List.sum_cons, List.sum_nil]
  repeat' (first | exact hp | omega | rfl | refine And.intro ?_ ?_)
theorem right_one {call : ByteArray} {ps : List ByteArray} {name op : ByteArray} {v : Int} (hc : nameF call = true) (hp : ∀ s ∈ ps, nameF s = true) (hn : nameF name = true) (ho : cmpOps.any (op == ·) = true) : rightF (oneU call ps name op v) = true := by
  have hP : nameF pP = true := by decide +kernel
  have hb : condF (oneE name op v) = true := by
    have hw : whatF (oneE name op v) = .pr (.mk 5 ⟨#[]⟩ name 0 []) (.mk 7 ⟨#[]⟩ ⟨#[]⟩ v []) := rfl
    have h5 : whatF (.mk 5 ⟨#[]⟩ name 0 []) = .nam := rfl
    have h7 : whatF (.mk 7 ⟨#[]⟩ ⟨#[]⟩ v []) = .num := rfl
    have hcm : comparedF (.mk 5 ⟨#[]⟩ name 0 []) = nameF name := by unfold comparedF; rw [h5]; rfl
    have hnu : ∀ n, numF (n + 1) (.mk 7 ⟨#[]⟩ ⟨#[]⟩ v []) = true := by
      intro n
      rw [numF, if_neg (by show ¬ (7 : Int) = 8; decide), oneF, h7]
    have hs : (oneE name op v).size = 2 + 1 := rfl
    rw [condF, hs, boolF, hw]
    simp only
    rw [if_neg (by show ¬ ((4 : Int) = 1 ∨ (4 : Int) = 2); decide), if_pos (by rfl), hcm, hn, hnu]
    rw [show cmpOps.any ((oneE name op v).op == ·) = true from ho]
    rfl
  have hd : (valF ⟨6, 0⟩).2 = true ∧ (valF ⟨7, 0⟩).2 = true := by decide
  simp only [rightF, oneU, polRF, partRF, ruleF, hP, hb, hc, hd.1, hd.2, List.all_cons, List.all_nil, Bool.and_true, Bool.true_and, if_true, List.length_cons, List.length_nil, List.map_cons, List.map_nil, Bool.and_eq_true, decide_eq_true_eq, List.all_eq_true]
  exact ⟨⟨hp, by omega⟩, by omega⟩
theorem flat_one (r : Rule) : flatF [⟨pP, [⟨⟨#[]⟩, ⟨7, 0⟩, [r]⟩]⟩] [pP] = ([⟨⟨#[]⟩, ⟨7, 0⟩, [r]⟩], 0) := by with_unfolding_all rfl
theorem val_num (v : Int) : valOf [] (.mk 7 ⟨#[]⟩ ⟨#[]⟩ v []) = (v, 0) := by
  unfold valOf
  rw [cof_num]
  show numF 2 (.mk 7 ⟨#[]⟩ ⟨#[]⟩ v []) = true
  have h7 : whatF (.mk 7 ⟨#[]⟩ ⟨#[]⟩ v []) = .num := rfl
  rw [numF, if_neg (by show ¬ (7 : Int) = 8; decide), oneF, h7]
theorem cnd_one (ps : List ByteArray) (name op : ByteArray) (v : Int) : cndF [] ps (oneE name op v) = if ixF name ps 0 < 0 then (cd0, 7) else (.mk 5 ⟨ixF name ps 0, opF op, allBits, v⟩ [], 0) := by
  unfold oneE
  rw [cndF_4, atomF]
  have h1 : (kid0 (.mk 4 op ⟨#[]⟩ 0 [.mk 5 ⟨#[]⟩ name 0 [], .mk 7 ⟨#[]⟩ ⟨#[]⟩ v []])) = .mk 5 ⟨#[]⟩ name 0 [] := rfl
  have h2 : (kid1 (.mk 4 op ⟨#[]⟩ 0 [.mk 5 ⟨#[]⟩ name 0 [], .mk 7 ⟨#[]⟩ ⟨#[]⟩ v []])) = .mk 7 ⟨#[]⟩ ⟨#[]⟩ v [] := rfl
  rw [h1, h2, val_num]
  have h3 : maskF [] (.mk 5 ⟨#[]⟩ name 0 []) = (allBits, 0) := by unfold maskF; rw [if_neg (by show ¬ (5 : Int) = 6; decide)]
  rw [h3]
  show (if ixF name ps 0 < 0 then (cd0, 7) else if (0 : Int) = 0 then (if (0 : Int) = 0 then _ else _) else _) = _
  rw [if_pos rfl, if_pos rfl]
  rfl
theorem rules_one (call : ByteArray) (ps : List ByteArray) (name op : ByteArray) (v : Int) (l : List Cal) (c : Cal) (hf : l.find? (fun x => x.name == call) = some c) (hr : rightF (oneU call ps name op v) = true) :
    rulesF (oneU call ps name op v) (some l) = if (paramsF ps c.ps).2 = 0 then (if ixF name (paramsF ps c.ps).1 0 < 0 then ([], 7) else ([⟨c.nr, ⟨7, 0⟩, .mk 5 ⟨ixF name (paramsF ps c.ps).1 0, opF op, allBits, v⟩ []⟩], 0)) else ([], (paramsF ps c.ps).2) := by
  have hu : (oneU call ps name op v).defs = [] := rfl
  have hu2 : (oneU call ps name op v).pols = [⟨pP, [⟨⟨#[]⟩, ⟨7, 0⟩, [⟨call, ps, [oneE name op v]⟩]⟩]⟩] := rfl
  have hu3 : (oneU call ps name op v).main = [pP] := rfl
  have ht : (tableF [] [] 0 ([] : List Def)).2 = 0 := rfl
  have hg : ruleG (oneU call ps name op v) l ⟨call, ps, [oneE name op v]⟩ ⟨7, 0⟩ = bruleF [] (some (c.nr, c.ps)) ⟨call, ps, [oneE name op v]⟩ ⟨7, 0⟩ := by
    unfold ruleG; rw [hf, hu]; rfl
  rw [rulesF]
  rw [if_pos hr, hu, if_pos ht, hu2, hu3, flat_one, if_pos rfl]
  simp only [bpartsF, brulesF, hg]
  rw [brule_cons, cnd_one]
  by_cases h1 : (paramsF ps c.ps).2 = 0
  · rw [if_pos h1, if_pos h1]
    by_cases h2 : ixF name (paramsF ps c.ps).1 0 < 0
    · rw [if_pos h2, if_pos h2]; rfl
    · rw [if_neg h2, if_neg h2]; rfl
  · rw [if_neg h1, if_neg h1]
    have h3 : ¬ ((bd0, (paramsF ps c.ps).2) : Bd × Int).2 = 0 := h1
    rw [if_neg h3]
    exact (if_neg h1).symm
end Go.Proofs.YtjjhckmnnaafkaaDoor
namespace Go.Proofs.YtjjhckmnnaafkaaDoor
open Go Go.Am Go.Proofs
attribute [local irreducible] W WL DL WO RoundEnd
set_option maxRecDepth 10000
set_option maxHeartbeats 4000000
theorem calL2_fine : (calL2.all fun c => nameF c.name && (decide (c.name.size ≤ 60) && (decide (c.ps.length ≤ 6) && (c.ps.all (fun s => nameF s && (decide (s.size ≤ 50) && decide (ixF ⟨#[110, 111, 98, 111, 100, 121]⟩ c.ps 0 = -1))) && !dupS [] c.ps)))) = true := by decide +kernel
theorem ix_at : ∀ (l d : List ByteArray) (j : Nat) (s : ByteArray), dupS d l = false → l[j]? = some s → ∀ k : Int, ixF s l k = k + j
  | [], d, j, s, _, h, _ => by simp at h
  | x :: l, d, 0, s, _, h, k => by
    simp only [List.getElem?_cons_zero, Option.some.injEq] at h
    subst h
    rw [ixF_cons, if_pos (by rw [ba_beq]; simp)]; simp
  | x :: l, d, j + 1, s, hd, h, k => by
    simp only [List.getElem?_cons_succ] at h
    rw [dupS] at hd
    split at hd
    · cases hd
    · have hm := List.mem_of_getElem? h
      have hne : ¬ (x == s) = true := by
        intro hx
        have hx : x = s := by rw [ba_beq] at hx; simpa using hx
        subst hx
        exact dup_in l (d ++ [x]) x (by simp) hm hd
      rw [ixF_cons, if_neg hne, ix_at l (d ++ [x]) j s hd h (k + 1)]
      omega
where
  dup_in : ∀ (l d : List ByteArray) (x : ByteArray), x ∈ d → x ∈ l → ¬ dupS d l = false
    | [], _, _, _, h, _ => by simp at h
    | y :: l, d, x, hd, h, hf => by
      rw [dupS] at hf
      split at hf
      · cases hf
      · rename_i hn
        rcases List.mem_cons.1 h with rfl | h
        · exact hn (List.any_eq_true.2 ⟨x, hd, by rw [ba_beq]; simp⟩)
        · exact dup_in l (d ++ [y]) x (by simp [hd]) h hf
theorem cmp_op {k : Int} (h0 : 0 ≤ k) (h5 : k ≤ 5) : ∃ o, cmpOps[k.toNat]? = some o ∧ opF o = IntKind.wrap .i64 (k + 1) ∧ o.size ≤ 20 ∧ cmpOps.any (o == ·) = true := by
  have : k = 0 ∨ k = 1 ∨ k = 2 ∨ k = 3 ∨ k = 4 ∨ k = 5 := by omega
  rcases this with rfl | rfl | rfl | rfl | rfl | rfl <;> exact ⟨_, rfl, by decide, by decide, by decide⟩
theorem names16 (call : ByteArray) (k op v : Int) (names : List ByteArray) (hnl : names.length * 16 ≤ 2 ^ 47) (hss : ∀ s ∈ names, s.size < 2 ^ 47) : Comp Tryd.prog 3 [str call, int .i64 k, int .i64 op, int .u64 v, lst strow names] (bool true) := by
  have c0 := alive16
  have c1 := findCallR arch2 call calL2 (by decide) cls2
  have hfm := fun c (h : calL2.find? (fun x => x.name == call) = some c) => List.mem_of_find?_eq_some h
  have hfn := fun c (h : calL2.find? (fun x => x.name == call) = some c) => List.find?_some h
  have hcr := fun (c : Cal) (h : calL2.find? (fun x => x.name == call) = some c) ps name o (hr : rightF (oneU call ps name o v) = true) => rules_one call ps name o v calL2 c h hr
  generalize calL2.find? (fun x => x.name == call) = F at *
  unfold arch2 at c1
  cases F with
  | none =>
    unfold foundV zeroC at c1
    refine Spec.body (C := cx [(146, false)] 212) fits (fn := Tryd.f3) Tryd.func3 rfl (by decide) (by decide) (gI ?_)
    refine ST (wc c0 (wc c1 wz)) ?_ <;> (repeat' (first | exact Wl.mk | refine wy1 ?_ ?_)) <;> repeat (intro hb; have hx := wy5 hb; clear hx)
    all_goals exact ⟨rfl, rfl⟩
  | some c =>
    have hcf := List.all_eq_true.1 calL2_fine c (hfm c rfl)
    have hcn : c.name = call := by have := hfn c rfl; rw [ba_beq] at this; simpa using this
    have hcr := hcr c rfl
    simp only [Bool.and_eq_true, decide_eq_true_eq, List.all_eq_true, Bool.not_eq_true'] at hcf
    obtain ⟨f1, f2, f3, f4, f5⟩ := hcf
    rw [hcn] at f1 f2
    clear hfm hfn
    obtain ⟨cn, cr, cp⟩ := c
    simp only at f3 f4 f5 hcn
    unfold foundV at c1
    refine Spec.body (C := cx [(146, false)] 212) fits (fn := Tryd.f3) Tryd.func3 rfl (by decide) (by decide) (gI ?_)
    refine ST (wc c0 (wc c1 wz)) ?_ <;> (repeat' (first | exact Wl.mk | refine wy1 ?_ ?_)) <;> repeat (intro hb; have hx := wy5 hb; clear hx)
    all_goals try exact ⟨rfl, rfl⟩
    have g1 : 0 ≤ k := by simpa using ‹decide (k < 0) = false›
    have g2 : k < cp.length := by simpa using ‹decide (k ≥ ((cp.map strow).length : Int)) = false›
    have g3 : 0 ≤ op := by simpa using ‹decide (op < 0) = false›
    have g4 : op ≤ 5 := by simpa using ‹decide (op > 5) = false›
    have g5 : names.length = cp.length := by have := hb; simp at this; omega
    obtain ⟨o, o1, o2, o3, o4⟩ := cmp_op g3 g4
    refine wLoop [0, 1, 2, 3, 4, 12, 14, 15] 1 (names.length + 1) ?_
    refine (fun key => key names [] _ rfl rfl rfl (by intro s hs; cases hs) :
      (∀ (rest done : List ByteArray) (j : Int), names = done ++ rest → j = done.length → dupS [] names = dupS done rest → (∀ s ∈ done, nameF s = true ∧ s.size ≤ 50) →
      WR2 _ _ _ _ _ (rest.length + 1) [(0, str call), (1, int .i64 k), (2, int .i64 op), (3, int .u64 v), (4, lst strow names), (12, .one (.ptr 0 0)), (14, lst strow cmpOps), (15, int .i64 j)]
        [.var [.d (.sc (.string cn)), .d (.sc (.int .u32 cr)), .d (.list (cp.map strow))]]) → _) ?_
    intro rest
    induction rest with
    | cons x rest ih =>
      intro done j h1 hj hr hd
      have hlen : names.length = done.length + (rest.length + 1) := by rw [h1]; simp
      have hx : names[j.toNat]? = some x := by rw [h1, hj]; simp
      have gx := at_of (f := strow) hx
      have hsz := hss x (by rw [h1]; simp)
      · have c2 := nameD x (by omega)
        cases hnf : nameF x with
        | false =>
          rw [hnf] at c2
          refine wR (gI ?_)
          refine STD (wc c2 wz) ?_ <;> (repeat' (first | exact Wl.mk | refine wy1 ?_ ?_)) <;> repeat (intro hb; have hx := wy5 hb; clear hx)
          exact ⟨rfl, rfl⟩
        | true =>
          rw [hnf] at c2
          refine wR (gI ?_)
          refine STD (wc c2 wz) ?_ <;> (repeat' (first | exact Wl.mk | refine wy1 ?_ ?_)) <;> repeat (intro hb; have hx := wy5 hb; clear hx)
          · exact ⟨rfl, rfl⟩
          have hs50 : x.size ≤ 50 := by have := hb; simp at this; omega
          refine wLoop [0, 1, 2, 3, 4, 12, 14, 15, 16] 1 (done.length + 1) ?_
          refine (fun key => key done [] _ rfl rfl rfl :
            (∀ (rest2 done2 : List ByteArray) (j2 : Int), done = done2 ++ rest2 → j2 = done2.length → done.any (x == ·) = rest2.any (x == ·) →
            WR2 _ _ _ _ _ (rest2.length + 1) [(0, str call), (1, int .i64 k), (2, int .i64 op), (3, int .u64 v), (4, lst strow names), (12, .one (.ptr 0 0)), (14, lst strow cmpOps), (15, int .i64 j), (16, int .i64 j2)]
              [.var [.d (.sc (.string cn)), .d (.sc (.int .u32 cr)), .d (.list (cp.map strow))]]) → _) ?_
          intro rest2
          induction rest2 with
          | nil =>
            intro done2 j2 h2 hj2 hr2
            have hlen2 : done.length = done2.length := by rw [h2]; simp
            have hd0 : done.any (x == ·) = false := by rw [hr2]; rfl
            refine wR (gI ?_)
            refine STD wz ?_ <;> (repeat' (first | exact Wl.mk | refine wy1 ?_ ?_)) <;> repeat (intro hb; have hx := wy5 hb; clear hx)
            refine rE (ih (done ++ [x]) _ (by rw [h1]; simp) ?_ ?_ ?_)
            · rw [wrap_ok (by omega) (by omega)]; simp [hj]
            · rw [hr, dupS, hd0]; rfl
            · intro s hs
              rcases List.mem_append.1 hs with hs | hs
              · exact hd s hs
              · rw [List.mem_singleton.1 hs]; exact ⟨hnf, hs50⟩
          | cons y rest2 ih2 =>
            intro done2 j2 h2 hj2 hr2
            have hlen2 : done.length = done2.length + (rest2.length + 1) := by rw [h2]; simp
            have g6 : names[j2.toNat]? = some y := by rw [h1, h2, hj2]; simp
            have g7 := at_of (f := strow) g6
            refine wR (gI ?_)
            refine STD wz ?_ <;> (repeat' (first | exact Wl.mk | refine wy1 ?_ ?_)) <;> repeat (intro hb; have hx := wy5 hb; clear hx)
            · exact ⟨rfl, rfl⟩
            · have e1 : (x == y) = false := by
                have : (y == x) = false := hb
                rw [ba_beq] at this ⊢
                simpa [eq_comm] using this
              refine rE (ih2 (done2 ++ [y]) _ (by rw [h2]; simp) ?_ ?_)
              · rw [wrap_ok (by omega) (by omega)]; simp [hj2]
              · rw [hr2, List.any_cons, e1, Bool.false_or]
    | nil =>
      intro done j h1 hj hr hd
      have hlen : names.length = done.length := by rw [h1]; simp
      have hd0 : dupS [] names = false := by rw [hr]; rfl
      rw [List.append_nil] at h1
      subst h1
      clear hr
      obtain ⟨nm0, n0⟩ : ∃ x, cp[k.toNat]? = some x := ⟨cp[k.toNat]'(by omega), List.getElem?_eq_getElem (by omega)⟩
      obtain ⟨nm1, n1⟩ : ∃ x, names[k.toNat]? = some x := ⟨names[k.toNat]'(by omega), List.getElem?_eq_getElem (by omega)⟩
      have m0 := f4 nm0 (List.mem_of_getElem? n0)
      have m1 := hd nm1 (List.mem_of_getElem? n1)
      have i0 := ix_at cp [] _ nm0 f5 n0 0
      have i1 := ix_at names [] _ nm1 hd0 n1 0
      have n0' := at_of (f := strow) n0
      have n1' := at_of (f := strow) n1
      have o1' := at_of (f := strow) o1
      have kk : (0 : Int) + (k.toNat : Int) = k := by omega
      rw [kk] at i0 i1
      have r1 := right_one (v := v) f1 (ps := []) (by intro s hs; cases hs) m0.1 o4
      have r2 := right_one (v := v) f1 (ps := names) (fun s hs => (hd s hs).1) m1.1 o4
      have r3 := right_one (v := v) f1 (ps := []) (name := ⟨#[110, 111, 98, 111, 100, 121]⟩) (by intro s hs; cases hs) (by decide +kernel) o4
      have r4 := right_one (v := v) f1 (ps := names ++ [⟨#[111, 110, 101, 95, 109, 111, 114, 101]⟩]) (name := nm1) (by
        intro s hs
        rcases List.mem_append.1 hs with hs | hs
        · exact (hd s hs).1
        · rw [List.mem_singleton.1 hs]; decide +kernel) m1.1 o4
      have p1 : paramsF [] cp = (cp, 0) := by rw [paramsF, if_neg (by simp)]; rfl
      have p2 : paramsF names cp = (names, 0) := by
        rw [paramsF, if_neg (by omega), hd0, List.drop_eq_nil_of_le (by omega), List.append_nil]; rfl
      have p4 : paramsF (names ++ [⟨#[111, 110, 101, 95, 109, 111, 114, 101]⟩]) cp = ([], 9) := by rw [paramsF, if_pos (by simp; omega)]
      have q1 := hcr [] nm0 o r1
      have q2 := hcr names nm1 o r2
      have q3 := hcr [] ⟨#[110, 111, 98, 111, 100, 121]⟩ o r3
      have q4 := hcr _ nm1 o r4
      simp only [p1, i0, o2] at q1
      simp only [p2, i1, o2] at q2
      simp only [p1, m0.2.2] at q3
      simp only [p4] at q4
      rw [if_pos trivial, if_neg (by omega)] at q1
      rw [if_pos trivial, if_neg (by omega)] at q2
      rw [if_pos trivial, if_pos (by decide)] at q3
      rw [if_neg (by decide)] at q4
      have b1 := rulesB _ arch2 (few_fit (fewU_one (v := v) (ps := []) f2 (by simp) (by intro s hs; cases hs) (by omega : nm0.size ≤ 60) o3))
      have b2 := rulesB _ arch2 (few_fit (fewU_one (v := v) f2 (by omega : names.length ≤ 10) (fun s hs => by have := (hd s hs).2; omega) (by omega : nm1.size ≤ 60) o3))
      have b3 := rulesB _ arch2 (few_fit (fewU_one (v := v) (ps := []) (name := ⟨#[110, 111, 98, 111, 100, 121]⟩) f2 (by simp) (by intro s hs; cases hs) (by decide) o3))
      have b4 := rulesB _ arch2 (few_fit (fewU_one (v := v) (ps := names ++ [⟨#[111, 110, 101, 95, 109, 111, 114, 101]⟩]) f2 (by simp; omega) (by
        intro s hs
        rcases List.mem_append.1 hs with hs | hs
        · have := (hd s hs).2; omega
        · rw [List.mem_singleton.1 hs]; decide) (by omega : nm1.size ≤ 60) o3))
      have hca : callsOf arch2 = some calL2 := by unfold callsOf; rw [if_neg (by decide), if_neg (by decide), if_pos rfl]
      rw [hca, q1] at b1
      rw [hca, q2] at b2
      rw [hca, q3] at b3
      rw [hca, q4] at b4
      have a1 := oneR1 call [] nm0 o v
      have a2 := oneR1 call names nm1 o v
      have a3 := oneR1 call [] ⟨#[110, 111, 98, 111, 100, 121]⟩ o v
      have a4 := oneR1 call (names ++ [⟨#[111, 110, 101, 95, 109, 111, 114, 101]⟩]) nm1 o v
      have s1 := sameBds [⟨cr, ⟨7, 0⟩, .mk 5 ⟨k, IntKind.wrap .i64 (op + 1), allBits, v⟩ []⟩] [⟨cr, ⟨7, 0⟩, .mk 5 ⟨k, IntKind.wrap .i64 (op + 1), allBits, v⟩ []⟩] (by simp) (by intro x hx; rw [List.mem_singleton.1 hx]; exact ⟨by simp, trivial⟩)
      rw [pw_refl Bd.eqb_refl] at s1
      have e0 := num16 0
      have e7 := num16 7
      have e9 := num16 9
      unfold arch2 at b1 b2 b3 b4
      unfold bdsV at b1 b2 b3 b4
      unfold allBits at b1 b2 s1
      unfold lst at a4
      rw [List.map_append] at a4
      have t1 : (cr == cr) = true := by simp
      have t2 : (k == k && (IntKind.wrap .i64 (op + 1) == IntKind.wrap .i64 (op + 1) && ((18446744073709551615 : Int) == 18446744073709551615 && (v == v && true)))) = true := by simp
      refine wR (gI ?_)
      refine gRoom ?_
      repeat' (first | ((first | refine C_r ?_ | refine C0_r ?_ | refine O_r ?_ | refine R_r ?_); (conv => whnf); first | (refine ⟨fun hb => ?_, fun hb => ?_⟩ <;> try exact no_way) | refine A_o ?_ | refine B_o ?_ | refine C_o ?_ | refine R_o ?_ | refine fR ?_ | refine fRk ?_ | refine F_o ?_) | refine C_l (a1) ?_ | refine C_l (b1) ?_ | refine C_l (a2) ?_ | refine C_l (b2) ?_ | refine C_l (a3) ?_ | refine C_l (b3) ?_ | refine C_l (a4) ?_ | refine C_l (b4) ?_ | refine C_l (s1) ?_ | refine C_l (e0) ?_ | refine C_l (e7) ?_ | refine C_l (e9) ?_ | refine SA_l ?_ | refine V_l ?_ | refine L_l ?_ | refine Q_l ?_ | refine X_l ?_ | refine Xa_l ?_ | refine Xs_l ?_ | refine K_l ?_ | refine Ka_l ?_ | refine Lk_l ?_ | refine Up_l ?_ | refine Del_l ?_ | refine St_l ?_ | refine LU_l ?_ | refine Xw_l ?_ | refine Le_l ?_ | refine Se_l ?_ | refine M_l ?_ | refine A_l ?_ | refine A0_l ?_ | refine A1_l ?_ | refine Mk_l ?_ | refine Kz_l ?_ | refine W_l ?_ | refine C_d (a1) ?_ | refine C_d (b1) ?_ | refine C_d (a2) ?_ | refine C_d (b2) ?_ | refine C_d (a3) ?_ | refine C_d (b3) ?_ | refine C_d (a4) ?_ | refine C_d (b4) ?_ | refine C_d (s1) ?_ | refine C_d (e0) ?_ | refine C_d (e7) ?_ | refine C_d (e9) ?_ | refine A1_d ?_ | refine SA_d ?_ | refine V_d ?_ | refine L_d ?_ | refine Q_d ?_ | refine X_d ?_ | refine Xs_d ?_ | refine K_d ?_ | refine Ka_d ?_ | refine Lk_d ?_ | refine Up_d ?_ | refine A_d ?_ | refine A0_d ?_ | refine St_d ?_ | refine LU_d ?_ | refine Xw_d ?_ | refine Le_d ?_ | refine Se_d ?_ | refine M_d ?_ | refine Mk_d ?_ | refine N_d ?_ | refine Kz_d ?_ | refine W_d ?_ | fail)
      all_goals exact ⟨rfl, rfl⟩
theorem strs_typed2 {xs : List D} (h : Typed Tryd.prog 23 xs) : ∃ l : List ByteArray, xs = [.list (l.map strow)] ∧ l.length * 16 ≤ 2 ^ 47 ∧ ∀ s ∈ l, s.size < 2 ^ 47 := by
  obtain ⟨l, rfl, h1⟩ := strs_typed h
  obtain ⟨rows, h2, hr, hs⟩ := h.slice_inv Tryd.underlying23
  simp only [List.cons.injEq, D.list.injEq, and_true] at h2
  subst h2
  refine ⟨l, rfl, h1, fun s hs => ?_⟩
  obtain ⟨t, ht, hlt⟩ := str_typed (hr (strow s) (List.mem_map_of_mem hs))
  simp only [strow, List.cons.injEq, D.sc.injEq, Value.string.injEq, and_true] at ht
  rw [ht]; exact hlt
theorem names16_typed {x0 x1 x2 x3 x4 : List D} (y0 : Typed Tryd.prog 9 x0) (y1 : Typed Tryd.prog 3 x1) (y2 : Typed Tryd.prog 3 x2) (y3 : Typed Tryd.prog 22 x3) (y4 : Typed Tryd.prog 23 x4) :
    Comp Tryd.prog 3 [argV (aggTy Tryd.prog 9) x0, argV (aggTy Tryd.prog 3) x1, argV (aggTy Tryd.prog 3) x2, argV (aggTy Tryd.prog 22) x3, argV (aggTy Tryd.prog 23) x4] (Am.bool true) := by
  have a0 : aggTy Tryd.prog 9 = false := by unfold aggTy; rw [Tryd.underlying9]
  have a1 : aggTy Tryd.prog 3 = false := by unfold aggTy; rw [Tryd.underlying3]
  have a2 : aggTy Tryd.prog 22 = false := by unfold aggTy; rw [Tryd.underlying22]
  have a3 : aggTy Tryd.prog 23 = false := by unfold aggTy; rw [Tryd.underlying23]
  obtain ⟨s, rfl, _⟩ := str_typed y0
  obtain ⟨k, rfl, _⟩ := y1.int_inv Tryd.underlying3
  obtain ⟨o, rfl, _⟩ := y2.int_inv Tryd.underlying3
  obtain ⟨v, rfl, _⟩ := y3.int_inv Tryd.underlying22
  obtain ⟨l, rfl, hl, hs⟩ := strs_typed2 y4
  rw [a0, a1, a2, a3]
  exact names16 s k o v l hl hs
end Go.Proofs.YtjjhckmnnaafkaaDoor
