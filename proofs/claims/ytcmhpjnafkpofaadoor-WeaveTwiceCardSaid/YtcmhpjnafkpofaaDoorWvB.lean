/- wv3 wv4, as one text. -/
import Derived.Test.YtcmhpjnafkpofaaDoorWvA
set_option linter.unusedVariables false
set_option linter.unusedSimpArgs false
/- The weaver: a file. -/
namespace Go.Proofs.YtcmhpjnafkpofaaDoor
open Go Go.Am Go.Proofs
attribute [local irreducible] W WL DL WO RoundEnd
set_option maxRecDepth 10000
set_option maxHeartbeats 4000000
set_option linter.unusedVariables false
set_option linter.unusedSimpArgs false
abbrev fltV (f : Flt) : V := .agg (f.row.map .d)
def fileS [GVals] (L : List File) (g : Nat) : Prop := ∀ (n : Nat) (w : Ws), n < L.length → w.stack.length + g = 8 → roomW 651 w →
  Am.Spec Tryd.prog 31 [.one (.ptr 0 0), int .i64 n] (wS L w) (fun v s => v = fltV (fileW L g n w).1 ∧ s = wS L (fileW L g n w).2)
theorem tok_drop (done r : List Tok) : (((done ++ r).map Tok.row).take ((none : Option Int).getD (((done ++ r).map Tok.row).length : Int)).toNat).drop ((some (done.length : Int)).getD 0).toNat = r.map Tok.row := by
  show (((done ++ r).map Tok.row).take (((done ++ r).map Tok.row).length : Int).toNat).drop ((done.length : Int)).toNat = _
  rw [Int.toNat_natCast, Int.toNat_natCast, List.take_length, List.map_append]
  have : done.length = (done.map Tok.row).length := by rw [List.length_map]
  rw [this, List.drop_left]
theorem int_rows (out : List Int) (h : 0 < out.length) (hl : out.length < 2 ^ 40) : (out.map introw).take (IntKind.i64.wrap (((out.map introw).length : Int) - 1)).toNat = out.dropLast.map introw := by
  rw [List.length_map, wrap_ok (by omega) (by omega)]
  have : ((out.length : Int) - 1).toNat = out.length - 1 := by omega
  rw [this, ← List.map_take, List.dropLast_eq_take]
theorem int_len (out : List Int) (h : 0 < out.length) (hl : out.length < 2 ^ 40) : (IntKind.i64.wrap (((out.map introw).length : Int) - 1)).toNat = (out.dropLast.map introw).length := by
  rw [List.length_map, wrap_ok (by omega) (by omega), List.length_map, List.length_dropLast]
  omega
theorem loop_no {L : List File} {p : ByteArray} {rec : Int → Ws → Flt × Ws} {x : Tok} (h : isInc x = false) (r : List Tok) (w : Ws) : loopW L p rec (x :: r) w = loopW L p rec r (outW w x) := by
  cases r with
  | nil =>
    show (bif !isInc x then (flt0, cutW (outW w x)) else (⟨3, x.file, x.at_⟩, w)) = _
    rw [h]; rfl
  | cons y r => rw [loopW, h]; rfl
theorem flt0_V : fltV flt0 = .agg [.d (.sc (.int .i64 0)), .d (.sc (.int .i64 0)), .d (.sc (.complex .f64 0 0))] := by
  unfold flt0
  show V.agg [.d (.sc (.int .i64 0)), .d (.sc (.int .i64 0)), .d (.sc (.complex .f64 (F 0) (F 0)))] = _
  rw [F_zero]
theorem fileStep [GVals] (L : List File) (hL : shortF L) (hLn : L.length < 2 ^ 30) (g : Nat) (ihg : 0 < g → fileS L g) : /- a Spec -/ fileS L (g + 1) := by
  intro n w hn hw hroom
  obtain ⟨f, hf⟩ : ∃ f, L[n]? = some f := ⟨_, List.getElem?_eq_getElem hn⟩
  have hsf := hL f (List.mem_of_getElem? hf)
  have c1 := splitLR f.text (n : Int) (by omega)
  have hfw : fileW L (g + 1) (n : Int) w = (match lexA n f.text with
      | .error q => (⟨3, n, q⟩, w)
      | .ok l => loopW L f.path (fileW L g) l ⟨w.stack ++ [(n : Int)], w.ep, w.cnt, w.out⟩) := by
    rw [fileW, Int.toNat_natCast, hf]
    dsimp only
    cases lexA (n : Int) f.text <;> rfl
  rw [hfw]
  have g2 := at_of (f := File.row) (show L[((n : Nat) : Int).toNat]? = some f from hf)
  change Comp Tryd.prog _ _ (splitV n (lexA n f.text)) at c1
  have hll := fun l (h : lexA n f.text = .ok l) => lexA_len h
  have hty := fun l (h : lexA n f.text = .ok l) => lexA_text h
  have hos : w.out.length < 2 ^ 24 := by have := hroom.1; have := hroom.2.2; omega
  generalize lexA n f.text = lx at *
  cases lx with
  | error q =>
    unfold splitV faultV at c1
    unfold wS
    obtain ⟨stk, ep, cnt, out⟩ := w
    obtain ⟨fp, ft⟩ := f
    refine Spec.body (C := cx [(113, true)] 117) fits (fn := Tryd.f31) Tryd.func31 rfl (by decide) (by decide) (gI ?_)
    repeat' (first | ((first | refine C_r ?_ | refine O_r ?_); (conv => whnf); first | (refine ⟨fun hb => ?_, fun hb => ?_⟩ <;> try exact no_way) | refine B_o ?_ | refine fR ?_) | refine C_l (c1) ?_ | refine X_l ?_ | fail)
    all_goals first | exact ⟨rfl, rfl⟩ | trace_state
  | ok l =>
    have hll := hll l rfl
    have hty := hty l rfl
    unfold splitV faultV at c1
    have hsl : (w.stack.map introw).length = w.stack.length := by rw [List.length_map]
    dsimp only
    generalize hres : loopW L f.path (fileW L g) l ⟨w.stack ++ [(n : Int)], w.ep, w.cnt, w.out⟩ = res
    have hroom2 : roomW l.length ⟨w.stack ++ [(n : Int)], w.ep, w.cnt, w.out⟩ := by
      refine ⟨?_, hroom.2⟩
      have := hroom.1
      show (w.out.length : Int) + l.length ≤ 651 * (w.cnt + 1)
      omega
    obtain ⟨stk, ep, cnt, out⟩ := w
    try dsimp only at *
    have hst : (stk.map introw ++ [[D.sc (.int .i64 (n : Int))]]) = (stk ++ [(n : Int)]).map introw := by rw [List.map_append]; rfl
    generalize hstk2 : stk ++ [(n : Int)] = stk2 at *
    have hs2 : stk2.length = stk.length + 1 := by rw [← hstk2]; simp
    have hs2m : (stk2.map introw).length = stk2.length := by rw [List.length_map]
    unfold wS
    dsimp only
    obtain ⟨fp, ft⟩ := f
    try dsimp only at *
    refine Spec.body (C := cx [(113, true)] 117) fits (fn := Tryd.f31) Tryd.func31 rfl (by decide) (by decide) (gI ?_)
    repeat' (first | ((first | refine C_r ?_ | refine O_r ?_); (conv => whnf); first | (refine ⟨fun hb => ?_, fun hb => ?_⟩ <;> try exact no_way) | refine A_o ?_ | refine B_o ?_) | refine C_l (c1) ?_ | refine X_l ?_ | refine A_l ?_ | fail)
    rw [hst]
    clear c1
    refine wLoop [0, 4, 5, 7] 5 (l.length + 1) ?_
    refine (fun key => key l.length l [] ⟨stk2, ep, cnt, out⟩ (Nat.le_refl _) rfl rfl hroom2 hres.symm :
      (∀ (c : Nat) (rest done : List Tok) (w2 : Ws), rest.length ≤ c → l = done ++ rest → w2.stack = stk2 → roomW rest.length w2 → res = loopW L fp (fileW L g) rest w2 →
      WR2 _ _ _ _ _ (c + 1) [(0, .one (.ptr 0 0)), (4, .one (.ptr 3 0)), (5, lst Tok.row l), (7, int .i64 done.length)] (wS L w2 ++ [.var [.d (.sc (.int .i64 0)), .d (.sc (.int .i64 0)), .d (.sc (.complex .f64 0 0))], .var [.d (.sc (.int .i64 0)), .d (.sc (.int .i64 0)), .d (.sc (.complex .f64 (F 0) (F 0)))]])) → _) ?_
    intro c
    induction c with
    | zero =>
      intro rest done w2 hc h1 h2 h3 h4
      have hr0 : rest = [] := List.length_eq_zero_iff.1 (by omega)
      subst hr0
      have hl2 : l.length = done.length := by rw [h1]; simp
      have q : decide ((done.length : Int) < ((l.map Tok.row).length : Int)) = false := by rw [decide_eq_false_iff_not, List.length_map]; omega
      obtain ⟨s2, ep2, cnt2, out2⟩ := w2
      try dsimp only at h2
      subst h2
      have h4 : res = (flt0, cutW ⟨s2, ep2, cnt2, out2⟩) := h4
      have k2 := int_rows s2 (by omega) (by omega)
      have k3 := int_len s2 (by omega) (by omega)
      have k4 : 0 ≤ IntKind.i64.wrap (((s2.map introw).length : Int) - 1) := by rw [List.length_map, wrap_ok (by omega) (by omega)]; omega
      have k5 : IntKind.i64.wrap (((s2.map introw).length : Int) - 1) ≤ (s2.map introw).length := by rw [List.length_map, wrap_ok (by omega) (by omega)]; omega
      clear hres g2
      subst h4
      dsimp only
      rw [flt0_V]
      unfold wS cutW
      refine wR (gI ?_)
      repeat' (first | ((first | refine C_r ?_ | refine O_r ?_ | refine R_r ?_); (conv => whnf); first | (refine ⟨fun hb => ?_, fun hb => ?_⟩ <;> try exact no_way) | refine A_o ?_ | refine C_o ?_ | refine fR ?_) | refine Kb_d ?_ | fail)
      all_goals first | exact ⟨rfl, rfl⟩ | trace_state
    | succ c ih =>
      intro rest done w2 hc h1 h2 h3 h4
      cases rest with
      | nil =>
        have hl2 : l.length = done.length := by rw [h1]; simp
        have q : decide ((done.length : Int) < ((l.map Tok.row).length : Int)) = false := by rw [decide_eq_false_iff_not, List.length_map]; omega
        obtain ⟨s2, ep2, cnt2, out2⟩ := w2
        try dsimp only at h2
        subst h2
        have h4 : res = (flt0, cutW ⟨s2, ep2, cnt2, out2⟩) := h4
        have k2 := int_rows s2 (by omega) (by omega)
        have k3 := int_len s2 (by omega) (by omega)
        have k4 : 0 ≤ IntKind.i64.wrap (((s2.map introw).length : Int) - 1) := by rw [List.length_map, wrap_ok (by omega) (by omega)]; omega
        have k5 : IntKind.i64.wrap (((s2.map introw).length : Int) - 1) ≤ (s2.map introw).length := by rw [List.length_map, wrap_ok (by omega) (by omega)]; omega
        clear hres g2
        subst h4
        dsimp only
        rw [flt0_V]
        unfold wS cutW
        refine wR (gI ?_)
        repeat' (first | ((first | refine C_r ?_ | refine O_r ?_ | refine R_r ?_); (conv => whnf); first | (refine ⟨fun hb => ?_, fun hb => ?_⟩ <;> try exact no_way) | refine A_o ?_ | refine C_o ?_ | refine fR ?_) | refine Kb_d ?_ | fail)
        all_goals first | exact ⟨rfl, rfl⟩ | trace_state
      | cons x r' =>
        have hl2 : l.length = done.length + (r'.length + 1) := by rw [h1]; simp
        have q : decide ((done.length : Int) < ((l.map Tok.row).length : Int)) = true := by rw [decide_eq_true_eq, List.length_map]; omega
        have hx : l[((done.length : Nat) : Int).toNat]? = some x := by rw [h1]; simp
        have g3 := at_of (f := Tok.row) hx
        have e7 : IntKind.i64.wrap ((done.length : Int) + 1) = ((done.length + 1 : Nat) : Int) := by rw [wrap_ok (by omega) (by omega)]; omega
        have hcut := tok_drop done (x :: r')
        rw [← h1] at hcut
        obtain ⟨s2, ep2, cnt2, out2⟩ := w2
        try dsimp only at h2
        subst h2
        have hob : out2.length < 2 ^ 24 := by
          have := h3.1
          have := h3.2.2
          try dsimp only at *
          omega
        have hno := fun (hi : isInc x = false) => ih r' (done ++ [x]) (outW ⟨s2, ep2, cnt2, out2⟩ x) (by simp only [List.length_cons] at hc; omega) (by rw [h1]; simp) rfl (by
          refine ⟨?_, h3.2⟩
          have := h3.1
          have hx1 : ([x] : List Tok).length = 1 := rfl
          show ((out2 ++ [x]).length : Int) + r'.length ≤ 651 * (cnt2 + 1)
          rw [List.length_append, hx1]
          simp only [List.length_cons] at this
          omega) (by rw [h4, loop_no hi])
        obtain ⟨kd, tx, xf, xp⟩ := x
        try dsimp only at *
        cases k1 : kd == 5 with
        | false =>
          have k1n : (!(kd == 5)) = true := by rw [k1]; rfl
          have hi : isInc (⟨kd, tx, xf, xp⟩ : Tok) = false := by show (kd == 5 && tx == incB) = false; rw [k1]; rfl
          have g := hno hi
          rw [show (done ++ [(⟨kd, tx, xf, xp⟩ : Tok)]).length = done.length + 1 from by simp] at g
          unfold wS outW at g
          try dsimp only at g
          rw [List.map_append] at g
          clear hno ih h4 hres hcut
          unfold wS
          refine wR (gI ?_)
          repeat' (first | ((first | refine C_r ?_ | refine O_r ?_ | refine R_r ?_); (conv => whnf); first | (refine ⟨fun hb => ?_, fun hb => ?_⟩ <;> try exact no_way) | refine B_o ?_ | refine C_o ?_ | refine R_o ?_) | refine X_l ?_ | refine X_d ?_ | refine A_d ?_ | fail)
          all_goals first | (rw [e7]; exact rE g) | trace_state
        | true =>
        have k1n : (!(kd == 5)) = false := by rw [k1]; rfl
        cases k2 : tx == (⟨#[35, 105, 110, 99, 108, 117, 100, 101]⟩ : ByteArray) with
        | false =>
          have k2n : (!(tx == (⟨#[35, 105, 110, 99, 108, 117, 100, 101]⟩ : ByteArray))) = true := by rw [k2]; rfl
          have hi : isInc (⟨kd, tx, xf, xp⟩ : Tok) = false := by show (kd == 5 && tx == (⟨#[35, 105, 110, 99, 108, 117, 100, 101]⟩ : ByteArray)) = false; rw [k1, k2]; rfl
          have g := hno hi
          rw [show (done ++ [(⟨kd, tx, xf, xp⟩ : Tok)]).length = done.length + 1 from by simp] at g
          unfold wS outW at g
          try dsimp only at g
          rw [List.map_append] at g
          clear hno ih h4 hres hcut
          unfold wS
          refine wR (gI ?_)
          repeat' (first | ((first | refine C_r ?_ | refine O_r ?_ | refine R_r ?_); (conv => whnf); first | (refine ⟨fun hb => ?_, fun hb => ?_⟩ <;> try exact no_way) | refine B_o ?_ | refine C_o ?_ | refine R_o ?_) | refine X_l ?_ | refine X_d ?_ | refine A_d ?_ | fail)
          all_goals first | (rw [e7]; exact rE g) | trace_state
        | true =>
        have k2n : (!(tx == (⟨#[35, 105, 110, 99, 108, 117, 100, 101]⟩ : ByteArray))) = false := by rw [k2]; rfl
        have hi : isInc (⟨kd, tx, xf, xp⟩ : Tok) = true := by show (kd == 5 && tx == (⟨#[35, 105, 110, 99, 108, 117, 100, 101]⟩ : ByteArray)) = true; rw [k1, k2]; rfl
        clear hno
        cases r' with
        | nil =>
          have c2 := targetNo L ⟨s2, ep2, cnt2, out2⟩ (⟨kd, tx, xf, xp⟩ : Tok)
          rw [loopW, hi] at h4
          have h4 : res = (⟨3, xf, xp⟩, ⟨s2, ep2, cnt2, out2⟩) := h4
          clear ih hres
          subst h4
          unfold wS at *
          try dsimp only at *
          refine wR (gI ?_)
          repeat' (first | ((first | refine C_r ?_ | refine O_r ?_ | refine R_r ?_); (conv => whnf); first | (refine ⟨fun hb => ?_, fun hb => ?_⟩ <;> try exact no_way) | refine B_o ?_ | refine C_o ?_ | refine fR ?_) | refine K_l ?_ (a := some (done.length : Int)) (b := none) (rows' := [(⟨kd, tx, xf, xp⟩ : Tok)].map Tok.row) (h1 := Int.natCast_nonneg _) (h2 := by show (done.length : Int) ≤ ((l.map Tok.row).length : Int); rw [List.length_map]; omega) (h3 := Int.le_refl _) (hr := hcut) | refine fun k => WL.crpU [0, 1, 2] (wS L ⟨s2, ep2, cnt2, out2⟩) _ _ c2 (oW ?_ _) | refine X_l ?_ | refine X_d ?_ | fail)
          all_goals first | exact ⟨rfl, rfl⟩ | trace_state
        | cons y r =>
          have hym : y ∈ l := by rw [h1]; simp
          have c2 := targetR L ⟨s2, ep2, cnt2, out2⟩ (⟨kd, tx, xf, xp⟩ : Tok) y r stk n ⟨fp, ft⟩ hstk2.symm hf (by dsimp only; omega) ⟨h3.2.1, by have := h3.2.2; dsimp only at *; omega⟩ (by omega) (fun x hx => by have := (hL x hx).1; omega) (by have := hty y hym; omega) (by have := hl2; simp only [List.length_cons] at this; omega)
          have htg := fun h => tg_ok (L := L) (p := fp) (stack := s2) (cnt := cnt2) (y := y) h
          rw [loopW, hi] at h4
          try dsimp only at c2 h4
          generalize tgF L fp s2 cnt2 y = tg at *
          obtain ⟨m, e⟩ := tg
          try dsimp only at c2 h4 htg
          simp only [Bool.not_true, cond_false] at h4
          cases he : e == 0 with
          | false =>
            have hen : (!(e == 0)) = true := by rw [he]; rfl
            rw [he] at c2 h4
            have h4 : res = (⟨e, xf, xp⟩, ⟨s2, ep2, cnt2, out2⟩) := h4
            have c2 : Am.Spec Tryd.prog 45 [.one (.ptr 0 0), lst Tok.row ((⟨kd, tx, xf, xp⟩ : Tok) :: y :: r)] (wS L ⟨s2, ep2, cnt2, out2⟩) (fun v s => v = teV (m, e) ∧ s = wS L ⟨s2, ep2, cnt2, out2⟩) := c2
            clear ih hres htg
            subst h4
            unfold wS at *
            try dsimp only at *
            refine wR (gI ?_)
            repeat' (first | ((first | refine C_r ?_ | refine O_r ?_ | refine R_r ?_); (conv => whnf); first | (refine ⟨fun hb => ?_, fun hb => ?_⟩ <;> try exact no_way) | refine B_o ?_ | refine C_o ?_ | refine fR ?_) | refine K_l ?_ (a := some (done.length : Int)) (b := none) (rows' := ((⟨kd, tx, xf, xp⟩ : Tok) :: y :: r).map Tok.row) (h1 := Int.natCast_nonneg _) (h2 := by show (done.length : Int) ≤ ((l.map Tok.row).length : Int); rw [List.length_map]; omega) (h3 := Int.le_refl _) (hr := hcut) | refine fun k => WL.crpU [0, 1, 2] (wS L ⟨s2, ep2, cnt2, out2⟩) _ _ c2 (oW ?_ _) | refine X_l ?_ | refine X_d ?_ | fail)
            all_goals first | exact ⟨rfl, rfl⟩ | trace_state
          | true =>
            have hen : (!(e == 0)) = false := by rw [he]; rfl
            obtain ⟨t1, t2, k, rfl, t4⟩ := htg he
            rw [he] at c2 h4
            simp only [Bool.not_true, cond_false] at h4
            have c2 : Am.Spec Tryd.prog 45 [.one (.ptr 0 0), lst Tok.row ((⟨kd, tx, xf, xp⟩ : Tok) :: y :: r)] (wS L ⟨s2, ep2, cnt2, out2⟩) (fun v s => v = teV ((k : Int), e) ∧ s = wS L ⟨s2, ep2, cnt2 + 1, out2⟩) := c2
            have hg0 : 0 < g := by omega
            have hrm : roomW (r.length + 651) ⟨s2, ep2, cnt2 + 1, out2⟩ := by
              have h5 := h3.1
              have h6 := h3.2
              simp only [List.length_cons] at h5
              refine ⟨?_, ?_⟩
              · show (out2.length : Int) + ((r.length + 651 : Nat) : Int) ≤ 651 * (cnt2 + 1 + 1)
                try dsimp only at h5
                omega
              · show 0 ≤ cnt2 + 1 ∧ cnt2 + 1 ≤ 1000
                try dsimp only at h6
                omega
            have c3 := ihg hg0 k ⟨s2, ep2, cnt2 + 1, out2⟩ t4 (by dsimp only; omega) ⟨by have := hrm.1; omega, hrm.2⟩
            have hfr := file_room L hL g (k : Int) ⟨s2, ep2, cnt2 + 1, out2⟩ r.length hrm
            generalize fileW L g (k : Int) ⟨s2, ep2, cnt2 + 1, out2⟩ = z at *
            obtain ⟨⟨ze, zf, zp⟩, ⟨zs, zep, zc, zo⟩⟩ := z
            try dsimp only at c3 hfr h4
            cases hz : ze == 0 with
            | false =>
              have hzn : (!(ze == 0)) = true := by rw [hz]; rfl
              rw [hz] at h4
              have h4 : res = (⟨ze, zf, zp⟩, ⟨zs, zep, zc, zo⟩) := h4
              clear ih hres hfr
              subst h4
              unfold wS at *
              try dsimp only at *
              refine wR (gI ?_)
              repeat' (first | ((first | refine C_r ?_ | refine O_r ?_); (conv => whnf); first | (refine ⟨fun hb => ?_, fun hb => ?_⟩ <;> try exact no_way) | refine B_o ?_ | refine fR ?_) | refine K_l ?_ (a := some (done.length : Int)) (b := none) (rows' := ((⟨kd, tx, xf, xp⟩ : Tok) :: y :: r).map Tok.row) (h1 := Int.natCast_nonneg _) (h2 := by show (done.length : Int) ≤ ((l.map Tok.row).length : Int); rw [List.length_map]; omega) (h3 := Int.le_refl _) (hr := hcut) | refine fun k => WL.crpU [0, 1, 2] (wS L ⟨s2, ep2, cnt2, out2⟩) _ _ c2 (oW ?_ _) | refine fun k => WL.crpU [0, 1, 2] (wS L ⟨s2, ep2, cnt2 + 1, out2⟩) _ _ c3 (oW ?_ _) | refine X_l ?_ | fail)
              all_goals first | exact ⟨rfl, rfl⟩ | trace_state
            | true =>
              have hzn : (!(ze == 0)) = false := by rw [hz]; rfl
              obtain ⟨r1, r2⟩ := hfr hz
              try dsimp only at r2
              subst r2
              rw [hz] at h4
              simp only [Bool.not_true, cond_false] at h4
              have g := ih r (done ++ [(⟨kd, tx, xf, xp⟩ : Tok), y]) ⟨zs, zep, zc, zo⟩ (by simp only [List.length_cons] at hc; omega) (by rw [h1]; simp) rfl r1 h4
              rw [show (done ++ [(⟨kd, tx, xf, xp⟩ : Tok), y]).length = done.length + 2 from by simp] at g
              have e8 : IntKind.i64.wrap (IntKind.i64.wrap ((done.length : Int) + 1) + 1) = ((done.length + 2 : Nat) : Int) := by rw [e7, wrap_ok (by omega) (by simp only [List.length_cons] at hl2; omega)]; omega
              clear ih hres h4
              unfold wS at *
              try dsimp only at *
              refine wR (gI ?_)
              repeat' (first | ((first | refine C_r ?_ | refine O_r ?_); (conv => whnf); first | (refine ⟨fun hb => ?_, fun hb => ?_⟩ <;> try exact no_way) | refine B_o ?_ | refine R_o ?_) | refine K_l ?_ (a := some (done.length : Int)) (b := none) (rows' := ((⟨kd, tx, xf, xp⟩ : Tok) :: y :: r).map Tok.row) (h1 := Int.natCast_nonneg _) (h2 := by show (done.length : Int) ≤ ((l.map Tok.row).length : Int); rw [List.length_map]; omega) (h3 := Int.le_refl _) (hr := hcut) | refine fun k => WL.crpU [0, 1, 2] (wS L ⟨zs, ep2, cnt2, out2⟩) _ _ c2 (oW ?_ _) | refine fun k => WL.crpU [0, 1, 2] (wS L ⟨zs, ep2, cnt2 + 1, out2⟩) _ _ c3 (oW ?_ _) | refine X_l ?_ | fail)
              all_goals first | (rw [e8]; exact rE g) | trace_state
end Go.Proofs.YtcmhpjnafkpofaaDoor
/- The weaver: all of it. -/
namespace Go.Proofs.YtcmhpjnafkpofaaDoor
open Go Go.Am Go.Proofs
attribute [local irreducible] W WL DL WO RoundEnd
set_option maxRecDepth 10000
set_option maxHeartbeats 4000000
set_option linter.unusedVariables false
set_option linter.unusedSimpArgs false
theorem fileR [GVals] (L : List File) (hL : shortF L) (hLn : L.length < 2 ^ 30) : ∀ g : Nat, 0 < g → /- a Spec -/ fileS L g
  | 0, h => absurd h (Nat.lt_irrefl 0)
  | g + 1, _ => fileStep L hL hLn g (fileR L hL hLn g)
def wovenA (L : List File) (root : ByteArray) : Flt × List Tok :=
  bif (findA L root).2 then (bif (fileW L 8 (findA L root).1 ⟨[], 0, 0, []⟩).1.err == 0 then (flt0, (fileW L 8 (findA L root).1 ⟨[], 0, 0, []⟩).2.out) else ((fileW L 8 (findA L root).1 ⟨[], 0, 0, []⟩).1, []))
  else (⟨4, -1, (0, 0)⟩, [])
abbrev wvV (p : Flt × List Tok) : V := .tup [.one (.d (.list (p.2.map Tok.row))), .agg (p.1.row.map .d)]
theorem find_nat {L : List File} {p : ByteArray} (h : (findA L p).2 = true) : ∃ k : Nat, (findA L p).1 = k ∧ k < L.length := by
  unfold findA findW at h ⊢
  cases h7 : (cleanA p).2 with
  | false => rw [h7] at h; cases h
  | true =>
    rw [h7] at h
    simp only [cond_true] at h ⊢
    cases h8 : decide (ixP (hitP (cleanA p).1) L 0 ≥ 0) with
    | false => rw [h8] at h; cases h
    | true =>
      have h9 := of_decide_eq_true h8
      simp only [cond_true]
      rcases ixP_ge (hitP (cleanA p).1) L 0 (by omega) with h | h
      · omega
      · exact ⟨(ixP (hitP (cleanA p).1) L 0).toNat, by omega, by omega⟩
theorem Cn_r [GVals] {C : Cx} {Q : Am.Ex → Env → St → Prop} (n : Nat) {c : Code} {s : List Fr} {e : Env} {σ : St} (h : (runs C n (.code c s e σ)).holds C Q) (hT : C.T.fits C.P := by exact fits) (hmx : C.P.follows .mixedOrders = true := by exact mixed) : W C c e σ (un C s Q) := runs_sound (p := .code c s e σ) hT hmx n h
theorem On_r [GVals] {C : Cx} {Q : Am.Ex → Env → St → Prop} (n : Nat) {all l : List Oper} {s : List Fr} {e : Env} {σ : St} (h : (runs C n (.ops all l s e σ)).holds C Q) (hT : C.T.fits C.P := by exact fits) (hmx : C.P.follows .mixedOrders = true := by exact mixed) : WLk C all l e σ fun e σ => un C s Q .normal e σ := runs_sound (p := .ops all l s e σ) hT hmx n h
theorem flt0_row : (flt0.row.map Cell.d) = [.d (.sc (.int .i64 0)), .d (.sc (.int .i64 0)), .d (.sc (.complex .f64 0 0))] := by
  have := flt0_V
  exact V.agg.inj this
theorem tokensR [GVals] (L : List File) (root : ByteArray) (hL : shortF L) (hLn : L.length < 2 ^ 30) (hr : root.size < 2 ^ 30) : Comp Tryd.prog 19 [lst File.row L, str root] (wvV (wovenA L root)) := by
  have c1 := findR L root (by omega) (fun x hx => by have := (hL x hx).1; omega) (by omega)
  have hnat := fun h => find_nat (L := L) (p := root) h
  unfold wovenA
  generalize findA L root = q at *
  obtain ⟨i, ok⟩ := q
  dsimp only at *
  cases ok with
  | false =>
    have e : ((⟨4, -1, (0, 0)⟩ : Flt).row.map Cell.d) = [.d (.sc (.int .i64 4)), .d (.sc (.int .i64 (-1))), .d (.sc (.complex .f64 0 0))] := by
      show [Cell.d (.sc (.int .i64 4)), .d (.sc (.int .i64 (-1))), .d (.sc (.complex .f64 (F 0) (F 0)))] = _
      rw [F_zero]
    simp only [cond_false]
    unfold wvV
    dsimp only
    rw [e]
    refine Spec.body (C := cx [] 34) fits (fn := Tryd.f19) Tryd.func19 rfl (by decide) (by decide) (gI ?_)
    repeat' (first | ((first | refine C_r ?_ | refine O_r ?_); (conv => whnf); first | (refine ⟨fun hb => ?_, fun hb => ?_⟩ <;> try exact no_way) | refine B_o ?_ | refine fR ?_) | refine C_l (c1) ?_ | fail)
    all_goals first | exact ⟨rfl, rfl⟩ | trace_state
  | true =>
    obtain ⟨k, rfl, hk⟩ := hnat rfl
    have c2 := fileR L hL hLn 8 (by decide) k ⟨[], 0, 0, []⟩ hk rfl ⟨by show ((0 : Nat) : Int) + ((651 : Nat) : Int) ≤ 651 * (0 + 1); omega, by show (0 : Int) ≤ 0 ∧ (0 : Int) ≤ 1000; omega⟩
    have c2 : Am.Spec Tryd.prog 31 [.one (.ptr 0 0), int .i64 k] [.var [.d (.list (L.map File.row)), .arr 1 0 0, .d (.sc (.int .i64 0)), .arr 2 0 0], .arr 0 true 1 [], .arr 0 false 4 []] (fun v s => v = fltV (fileW L 8 k ⟨[], 0, 0, []⟩).1 ∧ s = wS L (fileW L 8 k ⟨[], 0, 0, []⟩).2) := c2
    simp only [cond_true]
    generalize fileW L 8 (k : Int) ⟨[], 0, 0, []⟩ = z at *
    obtain ⟨⟨ze, zf, zp⟩, ⟨zs, zep, zc, zo⟩⟩ := z
    dsimp only at c2 ⊢
    cases hz : ze == 0 with
    | false =>
      have hzn : (!(ze == 0)) = true := by rw [hz]; rfl
      simp only [cond_false]
      unfold wS at c2
      dsimp only at c2
      refine Spec.body (C := cx [] 34) fits (fn := Tryd.f19) Tryd.func19 rfl (by decide) (by decide) (gI ?_)
      repeat' (first | (refine On_r 11 ?_; (conv => whnf); refine A_o ?_; refine gA 1 1 true 1 ?_; refine gA 1 3 false 4 ?_) | ((first | refine C_r ?_ | refine O_r ?_); (conv => whnf); first | (refine ⟨fun hb => ?_, fun hb => ?_⟩ <;> try exact no_way) | refine B_o ?_ | refine fR ?_) | refine C_l (c1) ?_ | refine fun k => WL.cr' [1, 2, 3] _ _ c2 rfl rfl rfl rfl rfl ⟨rfl, rfl, rfl, trivial⟩ rfl rfl rfl rfl (oW ?_ _) | fail)
      all_goals first | exact ⟨rfl, rfl⟩ | trace_state
    | true =>
      have hzn : (!(ze == 0)) = false := by rw [hz]; rfl
      simp only [cond_true]
      unfold wvV
      dsimp only
      rw [flt0_row]
      unfold wS at c2
      dsimp only at c2
      refine Spec.body (C := cx [] 34) fits (fn := Tryd.f19) Tryd.func19 rfl (by decide) (by decide) (gI ?_)
      repeat' (first | (refine On_r 11 ?_; (conv => whnf); refine A_o ?_; refine gA 1 1 true 1 ?_; refine gA 1 3 false 4 ?_) | ((first | refine C_r ?_ | refine O_r ?_); (conv => whnf); first | (refine ⟨fun hb => ?_, fun hb => ?_⟩ <;> try exact no_way) | refine B_o ?_ | refine fR ?_) | refine C_l (c1) ?_ | refine fun k => WL.cr' [1, 2, 3] _ _ c2 rfl rfl rfl rfl rfl ⟨rfl, rfl, rfl, trivial⟩ rfl rfl rfl rfl (oW ?_ _) | fail)
      all_goals first | exact ⟨rfl, rfl⟩ | trace_state
end Go.Proofs.YtcmhpjnafkpofaaDoor
