/- The linker: all of it. -/
import Derived.Test.YtcplpllbinilmaaLabp3
set_option linter.unusedVariables false
set_option linter.unusedSimpArgs false
namespace Go.Proofs.Ytcplpllbinilmaa
open Go Go.Am Go.Proofs
attribute [local irreducible] W WL DL WO RoundEnd
set_option maxRecDepth 10000
set_option maxHeartbeats 4000000
set_option linter.unusedVariables false
set_option linter.unusedSimpArgs false
theorem place0 (l : List Sym) : List.replicate (((l.map Sym.row).length : Nat) : Int).toNat [D.sc (Value.int IntKind.i64 0)] = (List.replicate l.length (0 : Int)).map i64row := by
  rw [List.length_map, Int.toNat_natCast, List.map_replicate]; rfl
theorem far0 (l : List Sym) : List.replicate (((l.map Sym.row).length : Nat) : Int).toNat [D.sc (Value.bool false), D.sc (Value.bool false)] = (List.replicate l.length (false, false)).map bbrow := by
  rw [List.length_map, Int.toNat_natCast, List.map_replicate]; rfl
theorem linkNo (l : List Sym) (hl : l.length ≤ 1365) (hr : rightF l = false) : Comp Try.prog 10 [lst Sym.row l] (.tup [.one (.d (.list [])), .one (.d (.sc (.int .i64 1)))]) := by
  have hml : ((l.map Sym.row).length : Int) ≤ 1365 := by rw [List.length_map]; omega
  have c1 := rightLR l l.length (List.replicate l.length (0 : Int)) (List.replicate l.length (false, false)) (by omega)
  rw [right_eq, hr] at c1
  have e1 := place0 l
  have e2 := far0 l
  have e3 : ((List.replicate l.length (0 : Int)).map i64row).length = l.length := by simp
  have e4 : ((List.replicate l.length (false, false)).map bbrow).length = l.length := by simp
  refine Spec.body (C := cx [(5, false), (11, true), (14, true)] 40) fits (fn := Try.f10) Try.func10 rfl (by decide) (by decide) (gI ?_)
  repeat' (first | ((first | refine C_r ?_ | refine O_r ?_ | refine R_r ?_); (conv => whnf); first | refine B_o ?_ | refine C_o ?_) | refine Mk_d ?_ | fail)
  rw [e1, e2, e3, e4]
  repeat' (first | (refine O_r ?_; (conv => whnf); first | (refine ⟨fun hb => ?_, fun hb => ?_⟩ <;> try exact no_way) | refine fR ?_) | refine fun k => WL.crp [0, 1, 2, 3] (linkS l [] l.length (List.replicate l.length (0 : Int)) (List.replicate l.length (false, false))) _ _ c1 (oW ?_ _) (linkU l [] l.length _ _) (linkR l _ l.length _ _) | fail)
  all_goals exact ⟨rfl, rfl⟩
theorem first_lt (k : Int) : ∀ (l : List Sym) (j n : Int), firstF k l j = some n → j ≤ n ∧ n < j + l.length
  | [], j, n, h => by cases h
  | x :: r, j, n, h => by
    rw [firstF] at h
    rw [List.length_cons]
    cases hx : x.label == k with
    | true => rw [hx] at h; simp only [cond_true, Option.some.injEq] at h; omega
    | false =>
      rw [hx] at h
      have := first_lt k r (j + 1) n h
      omega
theorem goes_in {l : List Sym} {m : LM} (hm : mapOk m l) {i : Nat} (hi : i + 1 < l.length) (t : Int) : 0 ≤ (goesF m i t).1 ∧ (goesF m i t).1 < l.length := by
  unfold goesF
  cases h0 : t == 0 with
  | true => simp only [cond_true]; omega
  | false =>
    simp only [cond_false]
    have hlk := fk_lk t m 0
    rw [hm t] at hlk
    cases hf : fkI t m 0 with
    | none => simp only; omega
    | some q =>
      obtain ⟨_, n⟩ := q
      rw [hf] at hlk
      cases hk : decide (t > 0) with
      | false => rw [hk] at hlk; cases hlk
      | true =>
        rw [hk] at hlk
        simp only [cond_true, Option.map_some] at hlk
        have := first_lt t l 0 n hlk.symm
        simp only; omega
theorem ends5 : endsF 5 = false := by decide
/-- the final spread -/
abbrev linkM (l : List Sym) : LM := (labF [] l 0).2
abbrev linkFa (l : List Sym) : List (Bool × Bool) := sprL l (linkM l) (2 * l.length + 1) (List.replicate l.length (false, false))
theorem fin_link {l : List Sym} (hr : rightF l = true) : FinP l (linkM l) (linkFa l) := by
  have hg : labG [] l = true := by
    have h := hr
    unfold rightF at h
    simp only [Bool.and_eq_true] at h
    exact labG_good (l := l) l [] rfl h.1.2
  obtain ⟨h1, h2⟩ := lab0 l
  have hm := h2 (by rw [h1]; exact hg)
  have h0 : stillP l (List.replicate l.length (false, false)) := by
    intro i x hx _
    have hi := (List.getElem?_eq_some_iff.1 hx).1
    unfold getB
    rw [List.getElem?_replicate, if_pos hi]; rfl
  obtain ⟨g1, g2, g3⟩ := sprL_ok l (linkM l) (2 * l.length + 1) (List.replicate l.length (false, false)) (by simp) h0 (by omega)
  exact ⟨hr, hg, hm, g1, g2, fun i x hx hc => by
    have := (spr_false (linkM l) _ l false _ 0 g3).2.2 i x hx hc
    rwa [Nat.zero_add] at this⟩
theorem linkU5 (l : List Sym) (m : LM) (nn : Nat) (pl : List Int) (fa : List (Bool × Bool)) (R : List (List D)) : ((linkS l m nn pl fa ++ [Ob.arr 0 false 4 R]).all fun o => o.under (alive (linkS l m nn pl fa ++ [Ob.arr 0 false 4 R]))) = true := by
  simp only [linkS, List.cons_append, List.nil_append, List.all_cons, List.all_nil, Ob.under, pureI m _, Bool.and_true]
  rfl
theorem linkYes (l : List Sym) (hl : l.length ≤ 1365) (hr : rightF l = true) : Comp Try.prog 10 [lst Sym.row l] (.tup [.one (.d (.list ((outL l (linkM l) (linkFa l)).map Ins.row))), .one (.d (.sc (.int .i64 0)))]) := by
  have hml : ((l.map Sym.row).length : Int) ≤ 1365 := by rw [List.length_map]; omega
  have c1 := rightLR l l.length (List.replicate l.length (0 : Int)) (List.replicate l.length (false, false)) (by omega)
  rw [right_eq, hr] at c1
  have e1 := place0 l
  have e2 := far0 l
  have e3 : ((List.replicate l.length (0 : Int)).map i64row).length = l.length := by simp
  have e4 : ((List.replicate l.length (false, false)).map bbrow).length = l.length := by simp
  have hfin := fin_link hr
  have hgo : ∀ (i : Nat) (x : Sym), l[i]? = some x → isJumpF x.code = true ∨ x.code = 5 → (0 ≤ (goesF (linkM l) i x.t).1 ∧ (goesF (linkM l) i x.t).1 < l.length) ∧ (0 ≤ (goesF (linkM l) i x.f).1 ∧ (goesF (linkM l) i x.f).1 < l.length) := by
    intro i x hx hc
    have hlt : i + 1 < l.length := by
      refine last_ends hr hx ?_
      rcases hc with h | h
      · exact (jump_ends h).1
      · rw [h]; exact ends5
    exact ⟨goes_in hfin.map hlt _, goes_in hfin.map hlt _⟩
  unfold linkFa linkM at *
  generalize (labF [] l 0).2 = m at *
  generalize hfa0 : sprL l m (2 * l.length + 1) (List.replicate l.length (false, false)) = faE at *
  have hsp := fun pl0 fa (h1 : pl0.length = l.length) (h2 : fa.length = l.length) => spreadR l m l.length pl0 fa (by omega) h1 h2 rfl (fun i x hx hc => hgo i x hx (.inl hc))
  refine Spec.body (C := cx [(5, false), (11, true), (14, true)] 40) fits (fn := Try.f10) Try.func10 rfl (by decide) (by decide) (gI ?_)
  repeat' (first | ((first | refine C_r ?_ | refine O_r ?_ | refine R_r ?_); (conv => whnf); first | refine B_o ?_ | refine C_o ?_) | refine Mk_d ?_ | fail)
  rw [e1, e2, e3, e4]
  repeat' (first | ((first | refine C_r ?_ | refine O_r ?_); (conv => whnf); first | (refine ⟨fun hb => ?_, fun hb => ?_⟩ <;> try exact no_way) | refine A_o ?_) | refine fun k => WL.crp [0, 1, 2, 3] (linkS l [] l.length (List.replicate l.length (0 : Int)) (List.replicate l.length (false, false))) _ _ c1 (oW ?_ _) (linkU l [] l.length _ _) (linkR l _ l.length _ _) | fail)
  clear c1 e1 e2 e3 e4
  refine wLoop [0, 4] 4 (2 * l.length + 2) ?_
  refine (fun key => key (2 * l.length + 1) (List.replicate l.length (0 : Int)) (List.replicate l.length (false, false)) (by simp) (by simp) hfa0 (by omega) :
    (∀ (c : Nat) (pl0 : List Int) (fa : List (Bool × Bool)), pl0.length = l.length → fa.length = l.length → sprL l m c fa = faE → 2 * l.length + 1 ≤ c + cntT fa →
    WR2 _ _ _ _ _ (c + 1) [(0, lst Sym.row l), (4, .one (.ptr 3 0))] (linkS l m l.length pl0 fa)) → _) ?_
  intro c
  induction c with
  | zero =>
    intro pl0 fa h1 h2 h3 h4
    have := cntT_le fa
    omega
  | succ c ih =>
    intro pl0 fa h1 h2 h3 h4
    have hmo := (spr_more m (layF 0 fa) l false fa 0 (by omega)).2
    have c2 := hsp pl0 fa h1 h2
    rw [sprL] at h3
    have hpl : (layF 0 fa).length = l.length := by rw [lay_len]; exact h2
    have hsf := spr_false m (layF 0 fa) l false fa 0
    have hsl := spr_len m (layF 0 fa) l false fa 0
    generalize sprF m (layF 0 fa) false fa 0 l = q at *
    obtain ⟨mo, fa2⟩ := q
    cases mo with
    | true =>
      have g := ih (layF 0 fa) fa2 hpl (by simp only at hsl; omega) h3 (by
        rcases hmo rfl with h | h
        · cases h
        · simp only at h; omega)
      clear hmo h4
      clear hsf
      refine wR (gI ?_)
      repeat' (first | ((first | refine C_r ?_ | refine O_r ?_); (conv => whnf); first | refine B_o ?_ | refine R_o ?_) | refine fun k => WL.crp [0, 1, 2, 3] (linkS l m l.length pl0 fa) _ _ c2 (oW ?_ _) (linkU l m l.length _ _) (linkR l _ l.length _ _) | fail)
      exact rE g (ht := trimL rfl (linkU l m l.length _ _))
    | false =>
      obtain ⟨_, hq, _⟩ := hsf rfl
      simp only at hq
      subst hq
      simp only [cond_false] at h3
      subst h3
      clear ih hsp hsl hsf hfa0 hmo h4
      refine wR (gI ?_)
      repeat' (first | ((first | refine C_r ?_ | refine O_r ?_); (conv => whnf); first | refine A_o ?_ | refine B_o ?_) | refine fun k => WL.crp [0, 1, 2, 3] (linkS l m l.length pl0 fa2) _ _ c2 (oW ?_ _) (linkU l m l.length _ _) (linkR l _ l.length _ _) | fail)
      clear c2
      have hol := fun n (h : n ≤ l.length) => out_len m (layF 0 fa2) hfin.still hfin.len n h
      have hoe := outL_len hfin
      have hsc := sumC_le fa2
      have hsct := fun n => sumC_take fa2 n
      have hins := fun n (hn : n < l.length) (p : Bool × Bool) (hp : fa2[n]? = some p) => cnt_ge p
      have hins2 := fun i x (hx : l[i]? = some x) => ins_len m (layF 0 fa2) hfin.still hx
      have hcr := fun (i : Nat) (x : Sym) (hx : l[i]? = some x) => instrsR l m l.length (layF 0 fa2) fa2 i x (by omega) (by rw [List.length_map, hpl]) (by rw [List.length_map, hfin.len]) hx (by rw [hfin.len]; exact (List.getElem?_eq_some_iff.1 hx).1) (fun n => by have := getI_lay (fa := fa2) n; omega) (fun hc => by rw [hpl]; exact hgo i x hx hc.symm.symm) (by rw [hpl]; exact (List.getElem?_eq_some_iff.1 hx).1)
      unfold outL at hoe ⊢
      generalize layF 0 fa2 = pl at *
      clear hgo
      refine wLoop [0, 4, 5, 26, 27] 5 (l.length + 1) ?_
      refine (fun key => key l [] _ rfl rfl :
        (∀ (rest done : List Sym) (j : Int), l = done ++ rest → j = done.length →
        WR2 _ _ _ _ _ (rest.length + 1) [(0, lst Sym.row l), (4, .one (.ptr 3 0)), (5, .one (.arr 4 0 ((outG m pl fa2 0 done).map Ins.row).length)), (26, int .i64 (l.map Sym.row).length), (27, int .i64 j)] (linkS l m l.length pl fa2 ++ [.arr 0 false 4 ((outG m pl fa2 0 done).map Ins.row)])) → _) ?_
      clear h1 hsct hins c
      intro rest
      induction rest with
      | nil =>
        intro done j g1 hj
        rw [List.append_nil] at g1
        subst g1
        have q : decide (j < ((l.map Sym.row).length : Int)) = false := by rw [decide_eq_false_iff_not, List.length_map]; omega
        have q2 : decide (((((outG m pl fa2 0 l).map Ins.row).length : Nat) : Int) > 4096) = false := by rw [decide_eq_false_iff_not, List.length_map]; omega
        clear hcr
        refine wR (gI ?_)
        repeat' (first | ((first | refine C_r ?_ | refine O_r ?_); (conv => whnf); first | (refine ⟨fun hb => ?_, fun hb => ?_⟩ <;> try exact no_way) | refine A_o ?_ | refine fR ?_) | fail)
        all_goals exact ⟨rfl, rfl⟩
      | cons x rest ih =>
        intro done j g1 hj
        subst hj
        have hx : l[done.length]? = some x := by rw [g1]; simp
        have hlen : l.length = done.length + (rest.length + 1) := by rw [g1]; simp
        have c3 := hcr done.length x hx
        have g := ih (done ++ [x]) ((done.length + 1 : Nat) : Int) (by rw [g1]; simp) (by simp)
        have hog := hol done.length (by omega)
        rw [show l.take done.length = done from by rw [g1]; simp] at hog
        have hil := hins2 done.length x hx
        have hcnt := cnt_ge (getB fa2 done.length)
        have hst := (sumC_take fa2 done.length).2
        rw [out_app, List.map_append, Nat.zero_add] at g
        rw [show outG m pl fa2 done.length [x] = insF m pl fa2 done.length x from by rw [outG, outG, List.append_nil]] at g
        generalize insF m pl fa2 done.length x = ins at *
        generalize outG m pl fa2 0 done = og at *
        have q : decide ((done.length : Int) < ((l.map Sym.row).length : Int)) = true := by rw [decide_eq_true_eq, List.length_map]; omega
        have e7 : IntKind.i64.wrap ((done.length : Int) + 1) = ((done.length + 1 : Nat) : Int) := by rw [wrap_ok (by omega) (by omega)]; omega
        clear hcr ih hol hins2
        refine wR (gI ?_)
        repeat' (first | ((first | refine C_r ?_ | refine O_r ?_); (conv => whnf); first | (refine ⟨fun hb => ?_, fun hb => ?_⟩ <;> try exact no_way) | refine B_o ?_ | refine R_o ?_) | refine fun k => WL.crp [0, 1, 2, 3] (linkS l m l.length pl fa2) _ _ c3 (oW ?_ _) (linkU l m l.length _ _) (linkR l _ l.length _ _) | refine A_l ?_ | fail)
        all_goals (rw [e7]; exact rE g (ht := trimL rfl (linkU5 l m l.length _ _ _)))
end Go.Proofs.Ytcplpllbinilmaa
