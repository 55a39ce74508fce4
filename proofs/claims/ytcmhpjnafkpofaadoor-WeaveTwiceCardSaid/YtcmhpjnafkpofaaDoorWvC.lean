/- wv5 wv6, as one text. -/
import Derived.Test.YtcmhpjnafkpofaaDoorWvB
set_option linter.unusedVariables false
set_option linter.unusedSimpArgs false
/- The document's weaver. -/
namespace Go.Proofs.YtcmhpjnafkpofaaDoor
open Go Go.Am Go.Proofs
attribute [local irreducible] W WL DL WO RoundEnd
set_option maxRecDepth 10000
set_option maxHeartbeats 8000000
set_option linter.unusedVariables false
set_option linter.unusedSimpArgs false
def docP (z : Flt × Ws) : Flt × List Tok := bif z.1.err == 0 then (flt0, z.2.out) else (z.1, [])
def docS [GVals] (L : List File) (g : Nat) : Prop := ∀ (n : Nat) (st : List Int) (cnt : Int), n < L.length → st.length + g = 8 → (0 ≤ cnt ∧ cnt ≤ 1000) →
  Am.Spec Tryd.prog 32 [.one (.ptr 0 0), lst File.row L, int .i64 n, lst introw (st ++ [(n : Int)])] [.var [.d (.sc (.int .i64 cnt))]] (fun v s => v = wvV (docP (fileW L g n ⟨st, 0, cnt, []⟩)) ∧ s = [.var [.d (.sc (.int .i64 (fileW L g n ⟨st, 0, cnt, []⟩).2.cnt))]])
theorem docStep [GVals] (L : List File) (hL : shortF L) (hLn : L.length < 2 ^ 30) (g : Nat) (ihg : 0 < g → docS L g) : /- a Spec -/ docS L (g + 1) := by
  intro n st cnt hn hw hcnt
  obtain ⟨f, hf⟩ : ∃ f, L[n]? = some f := ⟨_, List.getElem?_eq_getElem hn⟩
  have hsf := hL f (List.mem_of_getElem? hf)
  have c1 := refSplitR f.text (n : Int) (by omega)
  have hfw : fileW L (g + 1) (n : Int) ⟨st, 0, cnt, []⟩ = (match lexA n f.text with
      | .error q => (⟨3, n, q⟩, ⟨st, 0, cnt, []⟩)
      | .ok l => loopW L f.path (fileW L g) l ⟨st ++ [(n : Int)], 0, cnt, []⟩) := by
    rw [fileW, Int.toNat_natCast, hf]
    dsimp only
    cases lexA (n : Int) f.text <;> rfl
  rw [hfw]
  have g2 := at_of (f := File.row) (show L[((n : Nat) : Int).toNat]? = some f from hf)
  change Comp Tryd.prog _ _ (splitV n (lexA n f.text)) at c1
  have hll := fun l (h : lexA n f.text = .ok l) => lexA_len h
  have hty := fun l (h : lexA n f.text = .ok l) => lexA_text h
  have hfile := fun l (h : lexA n f.text = .ok l) => lexA_file h
  generalize lexA n f.text = lx at *
  have hopl : (st ++ [(n : Int)]).length = st.length + 1 := by simp
  generalize hopn : st ++ [(n : Int)] = opn at *
  cases lx with
  | error q =>
    unfold splitV faultV at c1
    obtain ⟨fp, ft⟩ := f
    refine Spec.body (C := cx [(12, false), (153, false)] 169) fits (fn := Tryd.f32) Tryd.func32 rfl (by decide) (by decide) (gI ?_)
    repeat' (first | ((first | refine C_r ?_ | refine O_r ?_); (conv => whnf); first | (refine ⟨fun hb => ?_, fun hb => ?_⟩ <;> try exact no_way) | refine B_o ?_ | refine fR ?_) | refine C_l (c1) ?_ | refine X_l ?_ | fail)
    all_goals first | exact ⟨rfl, rfl⟩ | trace_state
  | ok l =>
    have hll := hll l rfl
    have hty := hty l rfl
    have hfile := hfile l rfl
    unfold splitV faultV at c1
    dsimp only
    generalize hres : loopW L f.path (fileW L g) l ⟨opn, 0, cnt, []⟩ = res
    have hroom2 : roomW l.length ⟨opn, 0, cnt, []⟩ := by
      refine ⟨?_, hcnt⟩
      show ((0 : Nat) : Int) + l.length ≤ 651 * (cnt + 1)
      omega
    obtain ⟨fp, ft⟩ := f
    try dsimp only at *
    refine Spec.body (C := cx [(12, false), (153, false)] 169) fits (fn := Tryd.f32) Tryd.func32 rfl (by decide) (by decide) (gI ?_)
    repeat' (first | ((first | refine C_r ?_ | refine O_r ?_); (conv => whnf); first | (refine ⟨fun hb => ?_, fun hb => ?_⟩ <;> try exact no_way) | refine A_o ?_ | refine B_o ?_) | refine C_l (c1) ?_ | refine X_l ?_ | fail)
    clear c1
    refine wLoop [0, 1, 2, 3, 9, 10, 12, 13] 4 (l.length + 1) ?_
    refine (fun key => key l.length l [] ⟨opn, 0, cnt, []⟩ (Nat.le_refl _) rfl rfl hroom2 hres.symm :
      (∀ (c : Nat) (rest done : List Tok) (w2 : Ws), rest.length ≤ c → l = done ++ rest → w2.stack = opn → roomW rest.length w2 → res = loopW L fp (fileW L g) rest w2 →
      WR2 _ _ _ _ _ (c + 1) [(0, .one (.ptr 0 0)), (1, lst File.row L), (2, int .i64 n), (3, lst introw opn), (9, .one (.ptr 1 0)), (10, lst Tok.row l), (12, .one (.arr 3 0 (w2.out.map Tok.row).length)), (13, int .i64 done.length)] [.var [.d (.sc (.int .i64 w2.cnt))], .var [.d (.sc (.int .i64 0)), .d (.sc (.int .i64 0)), .d (.sc (.complex .f64 0 0))], .var [.d (.sc (.int .i64 0)), .d (.sc (.int .i64 0)), .d (.sc (.complex .f64 (F 0) (F 0)))], .arr 0 false 4 (w2.out.map Tok.row)]) → _) ?_
    intro c
    induction c with
    | zero =>
      intro rest done w2 hc h1 h2 h3 h4
      have hr0 : rest = [] := List.length_eq_zero_iff.1 (by omega)
      subst hr0
      have hl2 : l.length = done.length := by rw [h1]; simp
      have q : decide ((done.length : Int) < ((l.map Tok.row).length : Int)) = false := by rw [decide_eq_false_iff_not, List.length_map]; omega
      obtain ⟨s2, ep2, cnt2, out2⟩ := w2
      dsimp only at h2
      subst h2
      have h4 : res = (flt0, cutW ⟨s2, ep2, cnt2, out2⟩) := h4
      clear hres g2
      subst h4
      have hdp : wvV (docP (flt0, cutW ⟨s2, ep2, cnt2, out2⟩)) = .tup [.one (.d (.list (out2.map Tok.row))), .agg [.d (.sc (.int .i64 0)), .d (.sc (.int .i64 0)), .d (.sc (.complex .f64 0 0))]] := by
        show V.tup [.one (.d (.list (out2.map Tok.row))), .agg (flt0.row.map Cell.d)] = _
        rw [flt0_row]
      rw [hdp]
      unfold cutW
      refine wR (gI ?_)
      repeat' (first | ((first | refine C_r ?_ | refine O_r ?_); (conv => whnf); first | (refine ⟨fun hb => ?_, fun hb => ?_⟩ <;> try exact no_way) | refine A_o ?_ | refine fR ?_) | fail)
      all_goals first | exact ⟨rfl, rfl⟩ | trace_state
    | succ c ih =>
      intro rest done w2 hc h1 h2 h3 h4
      cases rest with
      | nil =>
        have hl2 : l.length = done.length := by rw [h1]; simp
        have q : decide ((done.length : Int) < ((l.map Tok.row).length : Int)) = false := by rw [decide_eq_false_iff_not, List.length_map]; omega
        obtain ⟨s2, ep2, cnt2, out2⟩ := w2
        dsimp only at h2
        subst h2
        have h4 : res = (flt0, cutW ⟨s2, ep2, cnt2, out2⟩) := h4
        clear hres g2
        subst h4
        have hdp : wvV (docP (flt0, cutW ⟨s2, ep2, cnt2, out2⟩)) = .tup [.one (.d (.list (out2.map Tok.row))), .agg [.d (.sc (.int .i64 0)), .d (.sc (.int .i64 0)), .d (.sc (.complex .f64 0 0))]] := by
          show V.tup [.one (.d (.list (out2.map Tok.row))), .agg (flt0.row.map Cell.d)] = _
          rw [flt0_row]
        rw [hdp]
        unfold cutW
        refine wR (gI ?_)
        repeat' (first | ((first | refine C_r ?_ | refine O_r ?_); (conv => whnf); first | (refine ⟨fun hb => ?_, fun hb => ?_⟩ <;> try exact no_way) | refine A_o ?_ | refine fR ?_) | fail)
        all_goals first | exact ⟨rfl, rfl⟩ | trace_state
      | cons x r' =>
        have hl2 : l.length = done.length + (r'.length + 1) := by rw [h1]; simp
        have q : decide ((done.length : Int) < ((l.map Tok.row).length : Int)) = true := by rw [decide_eq_true_eq, List.length_map]; omega
        have hx : l[((done.length : Nat) : Int).toNat]? = some x := by rw [h1]; simp
        have g3 := at_of (f := Tok.row) hx
        have hxf := hfile x (by rw [h1]; simp)
        have e7 : IntKind.i64.wrap ((done.length : Int) + 1) = ((done.length + 1 : Nat) : Int) := by rw [wrap_ok (by omega) (by omega)]; omega
        obtain ⟨s2, ep2, cnt2, out2⟩ := w2
        dsimp only at h2
        subst h2
        have hob : out2.length < 2 ^ 24 := by
          have := h3.1
          have := h3.2.2
          try dsimp only at *
          omega
        have hno := fun (hi : isInc x = false) => ih r' (done ++ [x]) (outW ⟨s2, ep2, cnt2, out2⟩ x) (by simp only [List.length_cons] at hc; omega) (by rw [h1]; simp) rfl (by
          refine ⟨?_, h3.2⟩
          have := h3.1
          have hx1 : ([x] : List Tok).length = 1 := rfl
          show ((out2 ++ [x]).length : Int) + r'.length ≤ 651 * (cnt2 + 1)
          rw [List.length_append, hx1]
          simp only [List.length_cons] at this
          omega) (by rw [h4, loop_no hi])
        obtain ⟨kd, tx, xf, xp⟩ := x
        try dsimp only at *
        cases k2 : tx == (⟨#[35, 105, 110, 99, 108, 117, 100, 101]⟩ : ByteArray) with
        | false =>
          have k2n : (!(tx == (⟨#[35, 105, 110, 99, 108, 117, 100, 101]⟩ : ByteArray))) = true := by rw [k2]; rfl
          have hi : isInc (⟨kd, tx, xf, xp⟩ : Tok) = false := by show (kd == 5 && tx == (⟨#[35, 105, 110, 99, 108, 117, 100, 101]⟩ : ByteArray)) = false; rw [k2, Bool.and_false]
          have g := hno hi
          rw [show (done ++ [(⟨kd, tx, xf, xp⟩ : Tok)]).length = done.length + 1 from by simp] at g
          unfold outW at g
          try dsimp only at g
          rw [List.map_append] at g
          clear hno ih h4 hres
          refine wR (gI ?_)
          repeat' (first | ((first | refine C_r ?_ | refine O_r ?_); (conv => whnf); first | (refine ⟨fun hb => ?_, fun hb => ?_⟩ <;> try exact no_way) | refine B_o ?_ | refine R_o ?_) | refine X_l ?_ | refine A_l ?_ | fail)
          all_goals first | (rw [e7]; exact rE g) | trace_state
        | true =>
        have k2n : (!(tx == (⟨#[35, 105, 110, 99, 108, 117, 100, 101]⟩ : ByteArray))) = false := by rw [k2]; rfl
        cases k1 : kd == 5 with
        | false =>
          have k1n : (!(kd == 5)) = true := by rw [k1]; rfl
          have hi : isInc (⟨kd, tx, xf, xp⟩ : Tok) = false := by show (kd == 5 && tx == (⟨#[35, 105, 110, 99, 108, 117, 100, 101]⟩ : ByteArray)) = false; rw [k1]; rfl
          have g := hno hi
          rw [show (done ++ [(⟨kd, tx, xf, xp⟩ : Tok)]).length = done.length + 1 from by simp] at g
          unfold outW at g
          try dsimp only at g
          rw [List.map_append] at g
          clear hno ih h4 hres
          refine wR (gI ?_)
          repeat' (first | ((first | refine C_r ?_ | refine O_r ?_); (conv => whnf); first | (refine ⟨fun hb => ?_, fun hb => ?_⟩ <;> try exact no_way) | refine B_o ?_ | refine R_o ?_) | refine X_l ?_ | refine A_l ?_ | fail)
          all_goals first | (rw [e7]; exact rE g) | trace_state
        | true =>
        have k1n : (!(kd == 5)) = false := by rw [k1]; rfl
        have hi : isInc (⟨kd, tx, xf, xp⟩ : Tok) = true := by show (kd == 5 && tx == (⟨#[35, 105, 110, 99, 108, 117, 100, 101]⟩ : ByteArray)) = true; rw [k1, k2]; rfl
        clear hno
        cases r' with
        | nil =>
          have k3 : (IntKind.i64.wrap ((done.length : Int) + 1) == ((l.map Tok.row).length : Int)) = true := by rw [e7, beq_iff_eq, List.length_map]; simp only [List.length_nil] at hl2; omega
          rw [loopW, hi] at h4
          have h4 : res = (⟨3, xf, xp⟩, ⟨s2, ep2, cnt2, out2⟩) := h4
          clear ih hres
          subst h4
          subst hxf
          refine wR (gI ?_)
          repeat' (first | ((first | refine C_r ?_ | refine O_r ?_); (conv => whnf); first | (refine ⟨fun hb => ?_, fun hb => ?_⟩ <;> try exact no_way) | refine B_o ?_ | refine fR ?_) | refine X_l ?_ | fail)
          all_goals first | exact ⟨rfl, rfl⟩ | trace_state
        | cons y r =>
          have hym : y ∈ l := by rw [h1]; simp
          have hyt := hty y hym
          have hyat : l[(IntKind.i64.wrap ((done.length : Int) + 1)).toNat]? = some y := by
            rw [e7, Int.toNat_natCast, h1]
            simp
          have g4 := at_of (f := Tok.row) hyat
          have k3 : (IntKind.i64.wrap ((done.length : Int) + 1) == ((l.map Tok.row).length : Int)) = false := by rw [e7, beq_eq_false_iff_ne, List.length_map]; simp only [List.length_cons] at hl2; omega
          have k3b : 0 ≤ IntKind.i64.wrap ((done.length : Int) + 1) := by rw [e7]; omega
          have hjl := join_le fp y.text
          have c2 := docJoinR fp y.text (by omega) (by omega)
          have c3 := docFindR L (joinA fp y.text).1 (by omega) (fun x hx => by have := (hL x hx).1; omega) (by omega)
          have htg := fun h => tg_ok (L := L) (p := fp) (stack := s2) (cnt := cnt2) (y := y) h
          rw [loopW, hi] at h4
          simp only [Bool.not_true, cond_false] at h4
          try dsimp only at h4
          unfold tgF at h4 htg
          generalize joinA fp y.text = jq at *
          generalize findA L jq.1 = fq at *
          obtain ⟨jz, ok1⟩ := jq
          obtain ⟨m, ok2⟩ := fq
          obtain ⟨yk, yt, yf, yp⟩ := y
          try dsimp only at *
          cases k4 : yk == 4 with
          | false =>
            have k4n : (!(yk == 4)) = true := by rw [k4]; rfl
            rw [k4] at h4
            have h4 : res = (⟨3, xf, xp⟩, ⟨s2, ep2, cnt2, out2⟩) := h4
            clear ih hres
            subst h4
            subst hxf
            refine wR (gI ?_)
            repeat' (first | ((first | refine C_r ?_ | refine O_r ?_); (conv => whnf); first | (refine ⟨fun hb => ?_, fun hb => ?_⟩ <;> try exact no_way) | refine B_o ?_ | refine fR ?_) | refine X_l ?_ | fail)
            all_goals first | exact ⟨rfl, rfl⟩ | trace_state
          | true =>
          have k4n : (!(yk == 4)) = false := by rw [k4]; rfl
          rw [k4] at h4 htg
          cases ok1 with
          | false =>
            have h4 : res = (⟨4, xf, xp⟩, ⟨s2, ep2, cnt2, out2⟩) := h4
            clear ih hres
            subst h4
            subst hxf
            refine wR (gI ?_)
            repeat' (first | ((first | refine C_r ?_ | refine O_r ?_ | refine R_r ?_); (conv => whnf); first | (refine ⟨fun hb => ?_, fun hb => ?_⟩ <;> try exact no_way) | refine B_o ?_ | refine C_o ?_ | refine fR ?_) | refine C_l (c3) ?_ | refine X_l ?_ | refine C_d (c2) ?_ | refine X_d ?_ | fail)
            all_goals first | exact ⟨rfl, rfl⟩ | trace_state
          | true =>
          cases ok2 with
          | false =>
            have h4 : res = (⟨4, xf, xp⟩, ⟨s2, ep2, cnt2, out2⟩) := h4
            clear ih hres
            subst h4
            subst hxf
            refine wR (gI ?_)
            repeat' (first | ((first | refine C_r ?_ | refine O_r ?_ | refine R_r ?_); (conv => whnf); first | (refine ⟨fun hb => ?_, fun hb => ?_⟩ <;> try exact no_way) | refine B_o ?_ | refine C_o ?_ | refine fR ?_) | refine C_l (c3) ?_ | refine X_l ?_ | refine C_d (c2) ?_ | refine X_d ?_ | fail)
            all_goals first | exact ⟨rfl, rfl⟩ | trace_state
          | true =>
          simp only [Bool.not_true, cond_false] at h4 htg
          have hcn : s2.any (· == m) = s2.contains m := by
            rw [List.contains_eq_any_beq]
            congr 1
            funext z
            exact BEq.comm
          refine wR (gI ?_)
          repeat' (first | ((first | refine C_r ?_ | refine O_r ?_ | refine R_r ?_); (conv => whnf); first | (refine ⟨fun hb => ?_, fun hb => ?_⟩ <;> try exact no_way) | refine A_o ?_ | refine B_o ?_ | refine C_o ?_) | refine C_l (c3) ?_ | refine X_l ?_ | refine C_d (c2) ?_ | refine X_d ?_ | fail)
          clear c2 c3 g3 g4 hx hyat
          refine wLoop [0, 1, 2, 3, 9, 10, 12, 13, 14, 17, 19] 5 (s2.length + 1) ?_
          refine (fun key => key s2 [] _ rfl rfl hcn :
            (∀ (rest2 done2 : List Int) (jj : Int), s2 = done2 ++ rest2 → jj = done2.length → rest2.any (· == m) = s2.contains m →
            WR2 _ _ _ _ _ (rest2.length + 1) [(0, .one (.ptr 0 0)), (1, lst File.row L), (2, int .i64 n), (3, lst introw s2), (9, .one (.ptr 1 0)), (10, lst Tok.row l), (12, .one (.arr 3 0 (out2.map Tok.row).length)), (13, int .i64 (IntKind.i64.wrap ((done.length : Int) + 1))), (14, .one (.ptr 4 0)), (17, int .i64 m), (19, int .i64 jj)] [.var [.d (.sc (.int .i64 cnt2))], .var [.d (.sc (.int .i64 0)), .d (.sc (.int .i64 0)), .d (.sc (.complex .f64 0 0))], .var [.d (.sc (.int .i64 0)), .d (.sc (.int .i64 0)), .d (.sc (.complex .f64 (F 0) (F 0)))], .arr 0 false 4 (out2.map Tok.row), .var [.d (.sc (.int .i64 3)), .d (.sc (.int .i64 n)), .d (.sc (.complex .f64 (F xp.1) (F xp.2)))]]) → _) ?_
          intro rest2
          induction rest2 with
          | cons v rest2 ih2 =>
            intro done2 jj d1 d2 d3
            have hl3 : s2.length = done2.length + (rest2.length + 1) := by rw [d1]; simp
            have qv : decide (jj < ((s2.map introw).length : Int)) = true := by rw [decide_eq_true_eq, List.length_map]; omega
            have hv : s2[jj.toNat]? = some v := by rw [d1, d2]; simp
            have g5 := at_of (f := introw) hv
            have e9 : IntKind.i64.wrap (jj + 1) = jj + 1 := by rw [wrap_ok (by omega) (by omega)]
            rw [List.any_cons] at d3
            cases hvm : v == m with
            | true =>
              rw [hvm, Bool.true_or] at d3
              rw [← d3] at h4
              have h4 : res = (⟨5, xf, xp⟩, ⟨s2, ep2, cnt2, out2⟩) := h4
              clear ih ih2 hres
              subst h4
              subst hxf
              refine wR (gI ?_)
              repeat' (first | ((first | refine C_r ?_ | refine O_r ?_); (conv => whnf); first | (refine ⟨fun hb => ?_, fun hb => ?_⟩ <;> try exact no_way) | refine B_o ?_ | refine fR ?_) | refine X_l ?_ | fail)
              all_goals first | exact ⟨rfl, rfl⟩ | trace_state
            | false =>
              rw [hvm, Bool.false_or] at d3
              have g := ih2 (done2 ++ [v]) (jj + 1) (by rw [d1]; simp) (by rw [d2]; simp) d3
              clear ih ih2 hres h4
              refine wR (gI ?_)
              repeat' (first | ((first | refine C_r ?_ | refine O_r ?_); (conv => whnf); first | (refine ⟨fun hb => ?_, fun hb => ?_⟩ <;> try exact no_way) | refine B_o ?_ | refine R_o ?_) | refine X_l ?_ | fail)
              all_goals first | (rw [e9]; exact rE g) | trace_state
          | nil =>
            intro done2 jj d1 d2 d3
            rw [List.append_nil] at d1
            subst d1
            have d3 : false = s2.contains m := d3
            rw [← d3] at h4 htg
            simp only [cond_false] at h4 htg
            have qv : decide (jj < ((s2.map introw).length : Int)) = false := by rw [decide_eq_false_iff_not, List.length_map]; omega
            have hzl : ((s2.map introw).length : Int) = (s2.length : Int) := by rw [List.length_map]
            cases k5 : decide ((s2.length : Int) ≥ 8) with
            | true =>
              have k5n : decide (((s2.map introw).length : Int) ≥ 8) = true := by rw [hzl]; exact k5
              rw [k5] at h4
              have h4 : res = (⟨6, xf, xp⟩, ⟨s2, ep2, cnt2, out2⟩) := h4
              clear ih hres
              subst h4
              subst hxf
              refine wR (gI ?_)
              repeat' (first | ((first | refine C_r ?_ | refine O_r ?_); (conv => whnf); first | (refine ⟨fun hb => ?_, fun hb => ?_⟩ <;> try exact no_way) | refine A_o ?_ | refine fR ?_) | fail)
              all_goals first | exact ⟨rfl, rfl⟩ | trace_state
            | false =>
            have k5n : decide (((s2.map introw).length : Int) ≥ 8) = false := by rw [hzl]; exact k5
            rw [k5] at h4 htg
            cases k6 : decide (cnt2 ≥ 1000) with
            | true =>
              rw [k6] at h4
              have h4 : res = (⟨9, xf, xp⟩, ⟨s2, ep2, cnt2, out2⟩) := h4
              clear ih hres
              subst h4
              subst hxf
              refine wR (gI ?_)
              repeat' (first | ((first | refine C_r ?_ | refine O_r ?_); (conv => whnf); first | (refine ⟨fun hb => ?_, fun hb => ?_⟩ <;> try exact no_way) | refine A_o ?_ | refine fR ?_) | fail)
              all_goals first | exact ⟨rfl, rfl⟩ | trace_state
            | false =>
            rw [k6] at h4 htg
            obtain ⟨t1, t2, k, hk, t4⟩ := htg rfl
            have hk : m = (k : Int) := hk
            subst hk
            have hg0 : 0 < g := by omega
            have hrm : roomW (r.length + 651) ⟨s2, ep2, cnt2 + 1, out2⟩ := by
              have h5 := h3.1
              have h6 := h3.2
              simp only [List.length_cons] at h5
              refine ⟨?_, ?_⟩
              · show (out2.length : Int) + ((r.length + 651 : Nat) : Int) ≤ 651 * (cnt2 + 1 + 1)
                try dsimp only at h5
                omega
              · show 0 ≤ cnt2 + 1 ∧ cnt2 + 1 ≤ 1000
                try dsimp only at h6
                omega
            have c3 := ihg hg0 k s2 (cnt2 + 1) t4 (by omega) hrm.2
            have hfr := file_room L hL g (k : Int) ⟨s2, ep2, cnt2 + 1, out2⟩ r.length hrm
            have hsh := file_shift L ep2 out2 g (k : Int) ⟨s2, 0, cnt2 + 1, []⟩
            have hsh : fileW L g (k : Int) ⟨s2, ep2, cnt2 + 1, out2⟩ = ((fileW L g (k : Int) ⟨s2, 0, cnt2 + 1, []⟩).1, shW ep2 out2 (fileW L g (k : Int) ⟨s2, 0, cnt2 + 1, []⟩).2) := by
              rw [← hsh]
              show _ = fileW L g (k : Int) ⟨s2, ep2 + 0, cnt2 + 1, out2 ++ []⟩
              rw [Nat.add_zero, List.append_nil]
            have hh4 : res = bif !((fileW L g (k : Int) ⟨s2, ep2, cnt2 + 1, out2⟩).1.err == 0) then fileW L g (k : Int) ⟨s2, ep2, cnt2 + 1, out2⟩ else loopW L fp (fileW L g) r (fileW L g (k : Int) ⟨s2, ep2, cnt2 + 1, out2⟩).2 := h4
            clear h4
            rw [hsh] at hfr hh4
            generalize fileW L g (k : Int) ⟨s2, 0, cnt2 + 1, []⟩ = z at *
            obtain ⟨⟨ze, zf, zp⟩, ⟨zs, zep, zc, zo⟩⟩ := z
            unfold shW at hfr hh4
            dsimp only at c3 hfr hh4
            have e10 : IntKind.i64.wrap (cnt2 + 1) = cnt2 + 1 := wrap_ok (by have := hrm.2; dsimp only at this; omega) (by have := hrm.2; dsimp only at this; omega)
            have hopn : s2.map introw ++ [[D.sc (.int .i64 (k : Int))]] = (s2 ++ [(k : Int)]).map introw := by rw [List.map_append]; rfl
            have hopl : s2.length < 2 ^ 20 := by omega
            unfold lst at c3
            rw [← hopn] at c3
            cases hz : ze == 0 with
            | false =>
              have hzn : (!(ze == 0)) = true := by rw [hz]; rfl
              have hdz : docP ((⟨ze, zf, zp⟩ : Flt), (⟨zs, zep, zc, zo⟩ : Ws)) = (⟨ze, zf, zp⟩, []) := by unfold docP; dsimp only; rw [hz]; rfl
              rw [hdz] at c3
              rw [hz] at hh4
              have hh4 : res = (⟨ze, zf, zp⟩, ⟨zs, ep2 + zep, zc, out2 ++ zo⟩) := hh4
              have hdr : docP ((⟨ze, zf, zp⟩ : Flt), (⟨zs, ep2 + zep, zc, out2 ++ zo⟩ : Ws)) = (⟨ze, zf, zp⟩, []) := by unfold docP; dsimp only; rw [hz]; rfl
              clear ih hres hfr
              subst hh4
              rw [hdr]
              rw [← e10] at c3
              refine wR (gI ?_)
              repeat' (first | ((first | refine C_r ?_ | refine O_r ?_); (conv => whnf); first | (refine ⟨fun hb => ?_, fun hb => ?_⟩ <;> try exact no_way) | refine A_o ?_ | refine B_o ?_ | refine fR ?_) | refine fun k => WL.crpU [0] [.var [.d (.sc (.int .i64 (IntKind.i64.wrap (cnt2 + 1))))]] _ _ c3 (oW ?_ _) | refine A_l ?_ | refine A1_l ?_ | fail)
              all_goals first | exact ⟨rfl, rfl⟩ | trace_state
            | true =>
              have hzn : (!((0 : Int) == 0)) = false := rfl
              have hdz : docP ((⟨ze, zf, zp⟩ : Flt), (⟨zs, zep, zc, zo⟩ : Ws)) = (flt0, zo) := by unfold docP; dsimp only; rw [hz]; rfl
              rw [hdz] at c3
              have c3 : Am.Spec Tryd.prog 32 [.one (.ptr 0 0), lst File.row L, int .i64 k, .one (.d (.list (s2.map introw ++ [[D.sc (.int .i64 (k : Int))]])))] [.var [.d (.sc (.int .i64 (cnt2 + 1)))]] (fun v s => v = .tup [.one (.d (.list (zo.map Tok.row))), .agg [.d (.sc (.int .i64 0)), .d (.sc (.int .i64 0)), .d (.sc (.complex .f64 0 0))]] ∧ s = [.var [.d (.sc (.int .i64 zc))]]) := by
                rw [← flt0_row]; exact c3
              obtain ⟨r1, r2⟩ := hfr hz
              have r2 : zs = s2 := r2
              subst r2
              rw [hz] at hh4
              simp only [Bool.not_true, cond_false] at hh4
              have hob2 : (out2 ++ zo).length < 2 ^ 24 := by
                have := r1.1
                have := r1.2.2
                try dsimp only at *
                omega
              have hob3 : out2.length + zo.length < 2 ^ 24 := by rw [← List.length_append]; exact hob2
              have g := ih r (done ++ [(⟨kd, tx, xf, xp⟩ : Tok), ⟨yk, yt, yf, yp⟩]) ⟨zs, ep2 + zep, zc, out2 ++ zo⟩ (by simp only [List.length_cons] at hc; omega) (by rw [h1]; simp) rfl r1 hh4
              rw [show (done ++ [(⟨kd, tx, xf, xp⟩ : Tok), ⟨yk, yt, yf, yp⟩]).length = done.length + 2 from by simp] at g
              have e8 : IntKind.i64.wrap (IntKind.i64.wrap ((done.length : Int) + 1) + 1) = ((done.length + 2 : Nat) : Int) := by rw [e7, wrap_ok (by omega) (by simp only [List.length_cons] at hl2; omega)]; omega
              dsimp only at g
              rw [List.map_append] at g
              rw [← e10] at c3
              clear ih hres hh4
              refine wR (gI ?_)
              repeat' (first | ((first | refine C_r ?_ | refine O_r ?_); (conv => whnf); first | (refine ⟨fun hb => ?_, fun hb => ?_⟩ <;> try exact no_way) | refine A_o ?_ | refine B_o ?_ | refine R_o ?_) | refine fun k => WL.crpU [0] [.var [.d (.sc (.int .i64 (IntKind.i64.wrap (cnt2 + 1))))]] _ _ c3 (oW ?_ _) | refine A_l ?_ | refine A1_l ?_ | fail)
              all_goals first | (rw [e8]; exact rE g) | trace_state
end Go.Proofs.YtcmhpjnafkpofaaDoor
/- Weaving: the document's whole, how far spots lie, which files are few, how many are included. -/
namespace Go.Proofs.YtcmhpjnafkpofaaDoor
open Go Go.Am Go.Proofs
attribute [local irreducible] W WL DL WO RoundEnd
set_option maxRecDepth 10000
set_option maxHeartbeats 4000000
set_option linter.unusedVariables false
set_option linter.unusedSimpArgs false
theorem docR [GVals] (L : List File) (hL : shortF L) (hLn : L.length < 2 ^ 30) : ∀ g : Nat, 0 < g → /- a Spec -/ docS L g
  | 0, h => absurd h (Nat.lt_irrefl 0)
  | g + 1, _ => docStep L hL hLn g (docR L hL hLn g)
theorem docWeaveR [GVals] (L : List File) (root : ByteArray) (hL : shortF L) (hLn : L.length < 2 ^ 30) (hr : root.size < 2 ^ 30) : Comp Tryd.prog 20 [lst File.row L, str root] (wvV (wovenA L root)) := by
  have c1 := docFindR L root (by omega) (fun x hx => by have := (hL x hx).1; omega) (by omega)
  have hnat := fun h => find_nat (L := L) (p := root) h
  unfold wovenA
  generalize findA L root = q at *
  obtain ⟨i, ok⟩ := q
  dsimp only at *
  cases ok with
  | false =>
    have e : ((⟨4, -1, (0, 0)⟩ : Flt).row.map Cell.d) = [.d (.sc (.int .i64 4)), .d (.sc (.int .i64 (-1))), .d (.sc (.complex .f64 0 0))] := by
      show [Cell.d (.sc (.int .i64 4)), .d (.sc (.int .i64 (-1))), .d (.sc (.complex .f64 (F 0) (F 0)))] = _
      rw [F_zero]
    simp only [cond_false]
    unfold wvV
    dsimp only
    rw [e]
    refine Spec.body (C := cx [] 28) fits (fn := Tryd.f20) Tryd.func20 rfl (by decide) (by decide) (gI ?_)
    repeat' (first | ((first | refine C_r ?_ | refine O_r ?_); (conv => whnf); first | (refine ⟨fun hb => ?_, fun hb => ?_⟩ <;> try exact no_way) | refine B_o ?_ | refine fR ?_) | refine C_l (c1) ?_ | fail)
    all_goals first | exact ⟨rfl, rfl⟩ | trace_state
  | true =>
    obtain ⟨k, rfl, hk⟩ := hnat rfl
    have c2 := docR L hL hLn 8 (by decide) k [] 0 hk rfl ⟨by decide, by decide⟩
    simp only [cond_true]
    have e2 : (bif (fileW L 8 (k : Int) ⟨[], 0, 0, []⟩).1.err == 0 then (flt0, (fileW L 8 (k : Int) ⟨[], 0, 0, []⟩).2.out) else ((fileW L 8 (k : Int) ⟨[], 0, 0, []⟩).1, [])) = docP (fileW L 8 (k : Int) ⟨[], 0, 0, []⟩) := rfl
    rw [e2]
    generalize docP (fileW L 8 (k : Int) ⟨[], 0, 0, []⟩) = dp at *
    generalize (fileW L 8 (k : Int) ⟨[], 0, 0, []⟩).2.cnt = cz at *
    obtain ⟨⟨de, df, dpt⟩, dl⟩ := dp
    have c2 : Am.Spec Tryd.prog 32 [.one (.ptr 0 0), lst File.row L, int .i64 k, .one (.d (.list [[.sc (.int .i64 k)]]))] [.var [.d (.sc (.int .i64 0))]] (fun v s => v = .tup [.one (.d (.list (dl.map Tok.row))), .agg [.d (.sc (.int .i64 de)), .d (.sc (.int .i64 df)), .d (.sc (.complex .f64 (F dpt.1) (F dpt.2)))]] ∧ s = [.var [.d (.sc (.int .i64 cz))]]) := c2
    refine Spec.body (C := cx [] 28) fits (fn := Tryd.f20) Tryd.func20 rfl (by decide) (by decide) (gI ?_)
    repeat' (first | ((first | refine C_r ?_ | refine O_r ?_); (conv => whnf); first | (refine ⟨fun hb => ?_, fun hb => ?_⟩ <;> try exact no_way) | refine B_o ?_ | refine fR ?_) | refine C_l (c1) ?_ | refine fun k => WL.cr' [1] _ _ c2 rfl rfl rfl rfl rfl ⟨rfl, trivial⟩ rfl rfl rfl rfl (oW ?_ _) | fail)
    all_goals first | exact ⟨rfl, rfl⟩ | trace_state
/-! spots are low -/
theorem lexA_low (n : Int) (s : ByteArray) (hs : s.size ≤ 650) : outP 20000 (lexA n s) := by
  have hsz : s.size = s.data.toList.length := rfl
  exact lex_low n 20000 (s.size + 1) s.data.toList (1, 1) [] (fun x hx => by cases hx) (by show 1 + _ ≤ _; omega) (by show 1 + _ ≤ _; omega)
def lowW (z : Flt × Ws) : Prop := lowP z.1.at_ ∧ ∀ x ∈ z.2.out, lowP x.at_
theorem low0 : lowP (0, 0) := ⟨by decide, by decide⟩
theorem loop_low (L : List File) (p : ByteArray) (rec : Int → Ws → Flt × Ws) (hrec : ∀ n w, (∀ x ∈ w.out, lowP x.at_) → lowW (rec n w)) :
    ∀ (l : List Tok) (w : Ws), (∀ x ∈ l, lowP x.at_) → (∀ x ∈ w.out, lowP x.at_) → lowW (loopW L p rec l w)
  | [], w, _, hw => ⟨low0, hw⟩
  | [x], w, hl, hw => by
    rw [loopW]
    cases isInc x with
    | true => exact ⟨hl x (by simp), hw⟩
    | false =>
      refine ⟨low0, fun y hy => ?_⟩
      rcases List.mem_append.1 (show y ∈ w.out ++ [x] from hy) with hy | hy
      · exact hw y hy
      · rw [List.mem_singleton] at hy; rw [hy]; exact hl x (by simp)
  | x :: y :: r, w, hl, hw => by
    rw [loopW]
    cases isInc x with
    | false =>
      simp only [Bool.not_false, cond_true]
      refine loop_low L p rec hrec (y :: r) (outW w x) (fun z hz => hl z (List.mem_cons_of_mem _ hz)) fun z hz => ?_
      rcases List.mem_append.1 (show z ∈ w.out ++ [x] from hz) with hz | hz
      · exact hw z hz
      · rw [List.mem_singleton] at hz; rw [hz]; exact hl x (by simp)
    | true =>
      simp only [Bool.not_true, cond_false]
      generalize tgF L p w.stack w.cnt y = q
      cases q.2 == 0 with
      | false => exact ⟨hl x (by simp), hw⟩
      | true =>
        simp only [Bool.not_true, cond_false]
        have hr := hrec q.1 ⟨w.stack, w.ep, w.cnt + 1, w.out⟩ hw
        generalize rec q.1 ⟨w.stack, w.ep, w.cnt + 1, w.out⟩ = z at *
        cases z.1.err == 0 with
        | false => exact hr
        | true =>
          simp only [Bool.not_true, cond_false]
          exact loop_low L p rec hrec r z.2 (fun a ha => hl a (List.mem_cons_of_mem _ (List.mem_cons_of_mem _ ha))) hr.2
theorem file_low (L : List File) (hL : shortF L) : ∀ (g : Nat) (n : Int) (w : Ws), (∀ x ∈ w.out, lowP x.at_) → lowW (fileW L g n w)
  | 0, n, w, hw => ⟨low0, hw⟩
  | g + 1, n, w, hw => by
    rw [fileW]
    cases hx : L[n.toNat]? with
    | none => exact ⟨low0, hw⟩
    | some x =>
      have h1 := lexA_low n x.text (hL x (List.mem_of_getElem? hx)).2
      simp only
      cases hl : lexA n x.text with
      | error q =>
        rw [hl] at h1
        have h1 : q.1 ≤ 20000 ∧ q.2 ≤ 20000 := h1
        exact ⟨⟨by show q.1 < _; omega, by show q.2 < _; omega⟩, hw⟩
      | ok l =>
        rw [hl] at h1
        have h1 : ∀ x ∈ l, x.at_.1 ≤ 20000 ∧ x.at_.2 ≤ 20000 := h1
        exact loop_low L x.path (fileW L g) (fun n w hw => file_low L hL g n w hw) l _ (fun y hy => by have := h1 y hy; exact ⟨by omega, by omega⟩) hw
theorem woven_low (L : List File) (hL : shortF L) (root : ByteArray) : lowP (wovenA L root).1.at_ ∧ ∀ x ∈ (wovenA L root).2, lowP x.at_ := by
  unfold wovenA
  cases (findA L root).2 with
  | false => exact ⟨low0, fun x hx => by cases hx⟩
  | true =>
    have h := file_low L hL 8 (findA L root).1 ⟨[], 0, 0, []⟩ fun x hx => by cases hx
    simp only [cond_true]
    generalize fileW L 8 (findA L root).1 ⟨[], 0, 0, []⟩ = z at *
    cases z.1.err == 0 with
    | true => exact ⟨low0, h.2⟩
    | false => exact ⟨h.1, fun x hx => by cases hx⟩
theorem woven_len (L : List File) (hL : shortF L) (root : ByteArray) : (wovenA L root).2.length < 2 ^ 40 := by
  unfold wovenA
  cases (findA L root).2 with
  | false => exact (by decide : (0 : Nat) < 2 ^ 40)
  | true =>
    have h := file_room L hL 8 (findA L root).1 ⟨[], 0, 0, []⟩ 0 ⟨by show ((0 : Nat) : Int) + ((0 + 651 : Nat) : Int) ≤ 651 * (0 + 1); omega, by show (0 : Int) ≤ 0 ∧ (0 : Int) ≤ 1000; omega⟩
    simp only [cond_true]
    generalize fileW L 8 (findA L root).1 ⟨[], 0, 0, []⟩ = z at *
    cases hz : z.1.err == 0 with
    | true =>
      have h1 := (h hz).1.1
      have h2 := (h hz).1.2.2
      show z.2.out.length < 2 ^ 40
      omega
    | false => exact (by decide : (0 : Nat) < 2 ^ 40)
/-! few files; how many are included -/
def fewP (x : File) : Bool := !(decide ((x.text.size : Int) > 600)) && !(decide ((x.path.size : Int) > 60))
def fewFl (L : List File) : Bool := L.all fewP && decide ((L.length : Int) ≤ 8)
theorem fewFl_short {L : List File} (h : fewFl L = true) : shortF L ∧ L.length ≤ 8 ∧ ∀ x ∈ L, x.text.size ≤ 600 := by
  unfold fewFl at h
  rw [Bool.and_eq_true, List.all_eq_true] at h
  have hx := fun x hx => h.1 x hx
  have h8 := of_decide_eq_true h.2
  refine ⟨fun x hx2 => ?_, by omega, fun x hx2 => ?_⟩
  · have := hx x hx2
    unfold fewP at this
    rw [Bool.and_eq_true, Bool.not_eq_true', Bool.not_eq_true'] at this
    have h1 := of_decide_eq_false this.1
    have h2 := of_decide_eq_false this.2
    omega
  · have := hx x hx2
    unfold fewP at this
    rw [Bool.and_eq_true, Bool.not_eq_true'] at this
    have h1 := of_decide_eq_false this.1
    omega
theorem fewR [GVals] (L : List File) (hl : L.length < 2 ^ 60) : Comp Tryd.prog 17 [lst File.row L] (Am.bool (fewFl L)) := by
  generalize hfb : fewFl L = fb
  refine Spec.body (C := cx [] 29) fits (fn := Tryd.f17) Tryd.func17 rfl (by decide) (by decide) (gI ?_)
  repeat' (first | (refine C_r ?_; (conv => whnf); first | refine A_o ?_) | fail)
  refine wLoop [0, 3] 0 (L.length + 1) ?_
  refine (fun key => key L [] 0 rfl rfl hfb.symm :
    (∀ (rest done : List File) (j : Int), L = done ++ rest → j = done.length → fb = (rest.all fewP && decide ((L.length : Int) ≤ 8)) →
    WR2 _ _ _ _ _ (rest.length + 1) [(0, lst File.row L), (3, int .i64 j)] []) → _) ?_
  intro rest
  induction rest with
  | nil =>
    intro done j h1 hj hr
    have hlen : L.length = done.length := by rw [h1]; simp
    have q : decide (j < ((L.map File.row).length : Int)) = false := by rw [decide_eq_false_iff_not, List.length_map]; omega
    have hz : decide (((L.map File.row).length : Int) ≤ 8) = decide ((L.length : Int) ≤ 8) := by rw [List.length_map]
    rw [List.all_nil, Bool.true_and, ← hz] at hr
    refine wR (gI ?_)
    repeat' (first | ((first | refine C_r ?_ | refine O_r ?_); (conv => whnf); first | (refine ⟨fun hb => ?_, fun hb => ?_⟩ <;> try exact no_way) | refine A_o ?_ | refine fR ?_) | fail)
    all_goals (rw [hb] at hr; exact ⟨by rw [hr]; rfl, rfl⟩)
  | cons x rest ih =>
    intro done j h1 hj hr
    have hlen : L.length = done.length + (rest.length + 1) := by rw [h1]; simp
    have q : decide (j < ((L.map File.row).length : Int)) = true := by rw [decide_eq_true_eq, List.length_map]; omega
    have hat : L[j.toNat]? = some x := by rw [h1, hj]; simp
    have g2 := at_of (f := File.row) hat
    rw [List.all_cons] at hr
    unfold fewP at hr
    have e7 : IntKind.i64.wrap (j + 1) = j + 1 := by rw [wrap_ok (by omega) (by omega)]
    have g := fun h => ih (done ++ [x]) (j + 1) (by rw [h1]; simp) (by rw [hj]; simp) h
    clear ih
    obtain ⟨xp, xt⟩ := x
    dsimp only at hr
    cases k1 : decide ((xt.size : Int) > 600) with
    | true =>
      rw [k1] at hr
      have hr : fb = false := hr
      refine wR (gI ?_)
      repeat' (first | ((first | refine C_r ?_ | refine O_r ?_); (conv => whnf); first | (refine ⟨fun hb => ?_, fun hb => ?_⟩ <;> try exact no_way) | refine B_o ?_ | refine fR ?_) | refine X_l ?_ | fail)
      all_goals exact ⟨by rw [hr]; rfl, rfl⟩
    | false =>
    cases k2 : decide ((xp.size : Int) > 60) with
    | true =>
      rw [k1, k2] at hr
      have hr : fb = false := hr
      refine wR (gI ?_)
      repeat' (first | ((first | refine C_r ?_ | refine O_r ?_); (conv => whnf); first | (refine ⟨fun hb => ?_, fun hb => ?_⟩ <;> try exact no_way) | refine B_o ?_ | refine fR ?_) | refine X_l ?_ | fail)
      all_goals exact ⟨by rw [hr]; rfl, rfl⟩
    | false =>
      rw [k1, k2] at hr
      refine wR (gI ?_)
      repeat' (first | ((first | refine C_r ?_ | refine O_r ?_); (conv => whnf); first | (refine ⟨fun hb => ?_, fun hb => ?_⟩ <;> try exact no_way) | refine B_o ?_ | refine R_o ?_) | refine X_l ?_ | fail)
      all_goals (rw [e7]; exact rE (g hr))
def incK (s : ByteArray) : Nat → Nat → Int
  | 0, _ => 0
  | c + 1, k => (bif s.extract k (k + 8) == incB then 1 else 0) + incK s c (k + 1)
def incT (s : ByteArray) : Int := incK s (s.size - 7) 0
def incF : List File → Int
  | [] => 0
  | x :: r => incT x.text + incF r
theorem incK_le (s : ByteArray) : ∀ c k, 0 ≤ incK s c k ∧ incK s c k ≤ c
  | 0, _ => ⟨Int.le_refl 0, Int.le_refl 0⟩
  | c + 1, k => by
    have := incK_le s c (k + 1)
    rw [incK]
    cases s.extract k (k + 8) == incB <;> simp only [cond_true, cond_false] <;> omega
theorem includesR [GVals] (L : List File) (hl : L.length < 2 ^ 20) (hs : ∀ x ∈ L, x.text.size < 2 ^ 20) : Comp Tryd.prog 18 [lst File.row L] (int .i64 (incF L)) := by
  generalize hfb : incF L = fb
  refine Spec.body (C := cx [] 36) fits (fn := Tryd.f18) Tryd.func18 rfl (by decide) (by decide) (gI ?_)
  repeat' (first | (refine C_r ?_; (conv => whnf); first | refine A_o ?_) | fail)
  refine wLoop [0, 3, 4] 0 (L.length + 1) ?_
  refine (fun key => key L [] 0 0 rfl rfl (by rw [Int.zero_add]; exact hfb.symm) (by decide) :
    (∀ (rest done : List File) (j n : Int), L = done ++ rest → j = done.length → fb = n + incF rest → (0 ≤ n ∧ n ≤ 2 ^ 20 * j) →
    WR2 _ _ _ _ _ (rest.length + 1) [(0, lst File.row L), (3, int .i64 n), (4, int .i64 j)] []) → _) ?_
  intro rest
  induction rest with
  | nil =>
    intro done j n h1 hj hr hn
    have hlen : L.length = done.length := by rw [h1]; simp
    have q : decide (j < ((L.map File.row).length : Int)) = false := by rw [decide_eq_false_iff_not, List.length_map]; omega
    have hr : fb = n + 0 := hr
    rw [Int.add_zero] at hr
    refine wR (gI ?_)
    repeat' (first | ((first | refine C_r ?_ | refine O_r ?_); (conv => whnf); first | (refine ⟨fun hb => ?_, fun hb => ?_⟩ <;> try exact no_way) | refine A_o ?_ | refine fR ?_) | fail)
    all_goals exact ⟨by rw [hr]; rfl, rfl⟩
  | cons x rest ih =>
    intro done j n h1 hj hr hn
    have hlen : L.length = done.length + (rest.length + 1) := by rw [h1]; simp
    have q : decide (j < ((L.map File.row).length : Int)) = true := by rw [decide_eq_true_eq, List.length_map]; omega
    have hat : L[j.toNat]? = some x := by rw [h1, hj]; simp
    have hxs := hs x (by rw [h1]; simp)
    have g2 := at_of (f := File.row) hat
    rw [incF] at hr
    have e7 : IntKind.i64.wrap (j + 1) = j + 1 := by rw [wrap_ok (by omega) (by omega)]
    have g := fun m h h2 => ih (done ++ [x]) (j + 1) m (by rw [h1]; simp) (by rw [hj]; simp) h h2
    clear ih
    obtain ⟨xp, xt⟩ := x
    dsimp only at hr hxs
    refine wR (gI ?_)
    repeat' (first | ((first | refine C_r ?_ | refine O_r ?_); (conv => whnf); first | (refine ⟨fun hb => ?_, fun hb => ?_⟩ <;> try exact no_way) | refine A_o ?_) | fail)
    refine wLoop [0, 3, 4, 5] 0 (xt.size - 7 + 1) ?_
    refine (fun key => key (xt.size - 7) 0 n (by omega) (by rw [hr]; unfold incT; omega) (by omega) :
      (∀ (c k : Nat) (m : Int), c + k = xt.size - 7 → fb = m + incK xt c k + incF rest → (0 ≤ m ∧ m ≤ 2 ^ 20 * j + k) →
      WR2 _ _ _ _ _ (c + 1) [(0, lst File.row L), (3, int .i64 m), (4, int .i64 j), (5, int .i64 k)] []) → _) ?_
    intro c
    induction c with
    | zero =>
      intro k m d1 d2 d3
      have e8 : IntKind.i64.wrap ((k : Int) + 8) = (k : Int) + 8 := by rw [wrap_ok (by omega) (by omega)]
      have q2 : decide (IntKind.i64.wrap ((k : Int) + 8) ≤ (xt.size : Int)) = false := by rw [e8, decide_eq_false_iff_not]; omega
      have g := g m (by rw [d2, incK, Int.add_zero]) (by omega)
      clear q d2
      refine wR (gI ?_)
      repeat' (first | ((first | refine C_r ?_ | refine O_r ?_); (conv => whnf); first | (refine ⟨fun hb => ?_, fun hb => ?_⟩ <;> try exact no_way) | refine A_o ?_ | refine B_o ?_ | refine R_o ?_) | refine X_l ?_ | fail)
      all_goals first | (rw [e7]; exact rE g) | trace_state
    | succ c ih2 =>
      intro k m d1 d2 d3
      have e8 : IntKind.i64.wrap ((k : Int) + 8) = (k : Int) + 8 := by rw [wrap_ok (by omega) (by omega)]
      have q2 : decide (IntKind.i64.wrap ((k : Int) + 8) ≤ (xt.size : Int)) = true := by rw [e8, decide_eq_true_eq]; omega
      have z1 : (k : Int) ≤ IntKind.i64.wrap ((k : Int) + 8) := by rw [e8]; omega
      have z2 : IntKind.i64.wrap ((k : Int) + 8) ≤ (xt.size : Int) := by rw [e8]; omega
      have z3 : xt.extract ((k : Nat) : Int).toNat (IntKind.i64.wrap ((k : Int) + 8)).toNat = xt.extract k (k + 8) := by
        rw [e8]; congr 1
      have e9 : IntKind.i64.wrap ((k : Int) + 1) = ((k + 1 : Nat) : Int) := by rw [wrap_ok (by omega) (by omega)]; omega
      have e10 : IntKind.i64.wrap (m + 1) = m + 1 := by rw [wrap_ok (by omega) (by omega)]
      rw [incK] at d2
      cases hx : xt.extract k (k + 8) == incB with
      | true =>
        rw [hx] at d2
        have hx : (xt.extract k (k + 8) == (⟨#[35, 105, 110, 99, 108, 117, 100, 101]⟩ : ByteArray)) = true := hx
        have g := ih2 (k + 1) (m + 1) (by omega) (by rw [d2, cond_true]; omega) (by omega)
        clear ih2 d2 q
        refine wR (gI ?_)
        repeat' (first | ((first | refine C_r ?_ | refine O_r ?_); (conv => whnf); first | (refine ⟨fun hb => ?_, fun hb => ?_⟩ <;> try exact no_way) | refine B_o ?_ | refine R_o ?_) | refine Kz_l ?_ (a := some (k : Int)) (b := some (IntKind.i64.wrap ((k : Int) + 8))) (r := xt.extract k (k + 8)) (h0 := Int.natCast_nonneg _) (h1 := z1) (h2 := z2) (hr := z3) | refine X_l ?_ | fail)
        all_goals first | (rw [e9, e10]; exact rE g) | trace_state
      | false =>
        rw [hx] at d2
        have hx : (xt.extract k (k + 8) == (⟨#[35, 105, 110, 99, 108, 117, 100, 101]⟩ : ByteArray)) = false := hx
        have g := ih2 (k + 1) m (by omega) (by rw [d2, cond_false]; omega) (by omega)
        clear ih2 d2 q
        refine wR (gI ?_)
        repeat' (first | ((first | refine C_r ?_ | refine O_r ?_); (conv => whnf); first | (refine ⟨fun hb => ?_, fun hb => ?_⟩ <;> try exact no_way) | refine B_o ?_ | refine R_o ?_) | refine Kz_l ?_ (a := some (k : Int)) (b := some (IntKind.i64.wrap ((k : Int) + 8))) (r := xt.extract k (k + 8)) (h0 := Int.natCast_nonneg _) (h1 := z1) (h2 := z2) (hr := z3) | refine X_l ?_ | fail)
        all_goals first | (rw [e9]; exact rE g) | trace_state
end Go.Proofs.YtcmhpjnafkpofaaDoor
