/- fl6 fl7, as one text. -/
import Derived.Test.YtcmhpjnafkpofaaDoorFlB
set_option linter.unusedVariables false
set_option linter.unusedSimpArgs false
/- Paths: joined, and files found. -/
namespace Go.Proofs.YtcmhpjnafkpofaaDoor
open Go Go.Am Go.Proofs
attribute [local irreducible] W WL DL WO RoundEnd
set_option maxRecDepth 10000
set_option maxHeartbeats 4000000
set_option linter.unusedVariables false
set_option linter.unusedSimpArgs false
structure File where
  path : ByteArray
  text : ByteArray
def File.row (x : File) : List D := [.sc (.string x.path), .sc (.string x.text)]
def joinA (f p : ByteArray) : ByteArray × Bool := bif Lib.hasPrefix p.data.toList [47] then cleanA p else cleanA (dirOf f ++ p)
theorem dir_size (f : ByteArray) : (dirOf f).size ≤ f.size := by
  unfold dirOf
  rw [ByteArray.size_extract]
  omega
theorem filesJoinR [GVals] (f p : ByteArray) (hf : f.size < 2 ^ 31) (hp : p.size < 2 ^ 31 - 32) : Comp Tryd.prog 14 [str f, str p] (pathA (joinA f p)) := by
  have c1 := prefixR p
  have c2 := lastSlashR f (by omega)
  have hd := dir_size f
  have hll := last_le f
  have hsz : (dirOf f ++ p).size = (dirOf f).size + p.size := ByteArray.size_append
  unfold joinA
  cases hpre : Lib.hasPrefix p.data.toList [47] with
  | true =>
    have c3 := cleanR p (by omega)
    rw [hpre] at c1
    simp only [cond_true]
    generalize cleanA p = q at *
    obtain ⟨q1, q2⟩ := q
    cases q2 <;> dsimp only [pathA] at c3 ⊢
    all_goals refine Spec.body (C := cx [] 22) fits (fn := Tryd.f14) Tryd.func14 rfl (by decide) (by decide) (gI ?_)
    all_goals repeat' (first | ((first | refine C_r ?_ | refine O_r ?_); (conv => whnf); first | (refine ⟨fun hb => ?_, fun hb => ?_⟩ <;> try exact no_way) | refine B_o ?_ | refine fR ?_) | refine C_l (c1) ?_ | refine C_l (c3) ?_ | fail)
    all_goals first | exact ⟨rfl, rfl⟩ | trace_state
  | false =>
    have c3 := cleanR (dirOf f ++ p) (by omega)
    rw [hpre] at c1
    simp only [cond_false]
    have e1 : IntKind.i64.wrap (lastSlash f + 1) = lastSlash f + 1 := wrap_ok hll.1 (by omega)
    have kk1 : 0 ≤ IntKind.i64.wrap (lastSlash f + 1) := by rw [e1]; exact hll.1
    have kk2 : IntKind.i64.wrap (lastSlash f + 1) ≤ f.size := by rw [e1]; exact hll.2
    have kk3 : f.extract 0 (IntKind.i64.wrap (lastSlash f + 1)).toNat = dirOf f := by rw [e1]; rfl
    generalize cleanA (dirOf f ++ p) = q at *
    generalize lastSlash f = ls at *
    obtain ⟨q1, q2⟩ := q
    cases q2 <;> dsimp only [pathA] at c3 ⊢
    all_goals refine Spec.body (C := cx [] 22) fits (fn := Tryd.f14) Tryd.func14 rfl (by decide) (by decide) (gI ?_)
    all_goals repeat' (first | ((first | refine C_r ?_ | refine O_r ?_); (conv => whnf); first | (refine ⟨fun hb => ?_, fun hb => ?_⟩ <;> try exact no_way) | refine B_o ?_ | refine fR ?_) | refine C_l (c1) ?_ | refine C_l (c2) ?_ | refine C_l (c3) ?_ | refine Kz_l ?_ (a := none) (b := some (IntKind.i64.wrap (ls + 1))) (r := dirOf f) (h0 := Int.le_refl 0) (h1 := kk1) (h2 := kk2) (hr := kk3) | refine SA_l ?_ | fail)
    all_goals first | exact ⟨rfl, rfl⟩ | trace_state
theorem prefix_at (p : ByteArray) : Lib.hasPrefix p.data.toList [47] = true ↔ p.data.toList[0]? = some 47 := by
  unfold Lib.hasPrefix
  cases p.data.toList with
  | nil => simp
  | cons c r => simp [List.isPrefixOf]; exact eq_comm
theorem docJoinR [GVals] (f p : ByteArray) (hf : f.size < 2 ^ 31) (hp : p.size < 2 ^ 31 - 32) : Comp Tryd.prog 15 [str f, str p] (pathA (joinA f p)) := by
  have hz : p.data.toList.length = p.size := rfl
  have hd := dir_size f
  have hsz : (dirOf f ++ p).size = (dirOf f).size + p.size := ByteArray.size_append
  have c1 := cleanDocR p (by omega)
  have c2 := partsR f (by omega)
  have c3 := partsR p (by omega)
  have hpd := pieces_dir f p
  have c4 := refCleanS ((pieces f).dropLast ++ pieces p) (by rw [← hpd, wt_pieces]; omega)
  have hr := refV_A (dirOf f ++ p)
  rw [hpd] at hr
  rw [hr] at c4
  have hne : 0 < (pieces f).length := by
    unfold pieces
    rw [List.length_map]
    cases h : splitL f.data.toList with
    | nil => exact absurd h (split_ne _)
    | cons x r => simp
  have hlf := pieces_lt f (by omega)
  have hlp := pieces_lt p (by omega)
  unfold joinA
  cases hpre : Lib.hasPrefix p.data.toList [47] with
  | true =>
    have h0 := (prefix_at p).1 hpre
    have q1 : decide ((p.size : Int) > 0) = true := by
      have := (List.getElem?_eq_some_iff.1 h0).1
      rw [decide_eq_true_eq]; omega
    have hx : p.data.toList[((0 : Int)).toNat]? = some 47 := h0
    have q2 : (((47 : UInt8).toNat : Int) == 47) = true := by decide
    simp only [cond_true]
    clear c2 c3 c4 hr hpd
    generalize cleanA p = q at *
    obtain ⟨q1, q2⟩ := q
    cases q2 <;> dsimp only [pathA] at c1 ⊢
    all_goals refine Spec.body (C := cx [(26, false)] 33) fits (fn := Tryd.f15) Tryd.func15 rfl (by decide) (by decide) (gI ?_)
    all_goals repeat' (first | ((first | refine C_r ?_ | refine O_r ?_); (conv => whnf); first | (refine ⟨fun hb => ?_, fun hb => ?_⟩ <;> try exact no_way) | refine B_o ?_ | refine fR ?_) | refine C_l (c1) ?_ | refine Xs_l ?_ | fail)
    all_goals first | exact ⟨rfl, rfl⟩ | trace_state
  | false =>
    simp only [cond_false]
    clear hr hpd c1
    have k2 := drop_rows (pieces f) hne (by omega)
    have k4 : 0 ≤ IntKind.i64.wrap ((((pieces f).map strrow).length : Int) - 1) := by rw [List.length_map, wrap_ok (by omega) (by omega)]; omega
    have k5 : IntKind.i64.wrap ((((pieces f).map strrow).length : Int) - 1) ≤ ((pieces f).map strrow).length := by rw [List.length_map, wrap_ok (by omega) (by omega)]; omega
    have hdl : (pieces f).dropLast.length < 2 ^ 34 := by rw [List.length_dropLast]; omega
    have hdp : ((pieces p).map strrow).length < 2 ^ 34 := by rw [List.length_map]; omega
    unfold lst at c4
    rw [List.map_append] at c4
    generalize cleanA (dirOf f ++ p) = q at *
    generalize pieces f = pf at *
    generalize pieces p = pp at *
    obtain ⟨q1, q2⟩ := q
    have hcase : (decide ((p.size : Int) > 0) = false) ∨ (decide ((p.size : Int) > 0) = true ∧ ∃ b : UInt8, p.data.toList[((0 : Int)).toNat]? = some b ∧ ((b.toNat : Int) == 47) = false) := by
      by_cases hps : p.size = 0
      · left; rw [decide_eq_false_iff_not]; omega
      · right
        refine ⟨by rw [decide_eq_true_eq]; omega, _, List.getElem?_eq_getElem (by rw [hz]; show 0 < p.size; omega), ?_⟩
        rw [beq_eq_false_iff_ne]
        intro e
        have h47 : p.data.toList[0]? = some 47 := by
          rw [List.getElem?_eq_getElem (by rw [hz]; omega)]
          exact congrArg some (UInt8.toNat_inj.1 (by show _ = 47; exact Int.ofNat.inj e))
        rw [(prefix_at p).2 h47] at hpre
        cases hpre
    rcases hcase with h1 | ⟨h1, b, h2, h3⟩
    all_goals cases q2 <;> dsimp only [pathA] at c4 ⊢
    all_goals refine Spec.body (C := cx [(26, false)] 33) fits (fn := Tryd.f15) Tryd.func15 rfl (by decide) (by decide) (gI ?_)
    all_goals repeat' (first | ((first | refine C_r ?_ | refine O_r ?_); (conv => whnf); first | (refine ⟨fun hb => ?_, fun hb => ?_⟩ <;> try exact no_way) | refine B_o ?_ | refine fR ?_) | refine C_l (c2) ?_ | refine C_l (c3) ?_ | refine C_l (c4) ?_ | refine K_l ?_ (a := none) (b := some (IntKind.i64.wrap (((pf.map strrow).length : Int) - 1))) (rows' := pf.dropLast.map strrow) (h1 := Int.le_refl 0) (h2 := k4) (h3 := k5) (hr := k2) | refine Xs_l ?_ | refine A_l ?_ | refine A1_l ?_ | fail)
    all_goals first | exact ⟨rfl, rfl⟩ | trace_state
end Go.Proofs.YtcmhpjnafkpofaaDoor
/- Paths: files found. -/
namespace Go.Proofs.YtcmhpjnafkpofaaDoor
open Go Go.Am Go.Proofs
attribute [local irreducible] W WL DL WO RoundEnd
set_option maxRecDepth 10000
set_option maxHeartbeats 4000000
set_option linter.unusedVariables false
set_option linter.unusedSimpArgs false
def hitP (w : ByteArray) (x : File) : Bool := (cleanA x.path).2 && ((cleanA x.path).1 == w)
def ixP {α : Type} (p : α → Bool) : List α → Int → Int
  | [], _ => -1
  | x :: r, j => bif p x then j else ixP p r (j + 1)
theorem ixP_ge {α : Type} (p : α → Bool) : ∀ (l : List α) (j : Int), 0 ≤ j → ixP p l j = -1 ∨ (j ≤ ixP p l j ∧ ixP p l j < j + l.length)
  | [], j, _ => .inl rfl
  | x :: r, j, h => by
    rw [ixP, List.length_cons]
    cases p x with
    | true => right; simp only [cond_true]; omega
    | false =>
      simp only [cond_false]
      rcases ixP_ge p r (j + 1) (by omega) with h | h
      · exact .inl h
      · right; omega
def findW (l : List File) (w : ByteArray) : Int × Bool := bif decide (ixP (hitP w) l 0 ≥ 0) then (ixP (hitP w) l 0, true) else (0, false)
def findA (l : List File) (path : ByteArray) : Int × Bool := bif (cleanA path).2 then findW l (cleanA path).1 else (0, false)
abbrev nbV (p : Int × Bool) : V := .tup [.one (.d (.sc (.int .i64 p.1))), .one (.d (.sc (.bool p.2)))]
abbrev wantS (w : ByteArray) : St := [.var [.d (.sc (.string w))]]
theorem cloFind [GVals] (w : ByteArray) (x : File) (hx : x.path.size < 2 ^ 31) : Am.Spec Tryd.prog 28 [.agg (x.row.map .d), .one (.ptr 0 0)] (wantS w) (fun v s => v = Am.bool (hitP w x) ∧ s = wantS w) := by
  have c1 := cleanR x.path (by omega)
  unfold hitP
  generalize cleanA x.path = q at *
  obtain ⟨q1, q2⟩ := q
  obtain ⟨xp, xt⟩ := x
  dsimp only at c1 ⊢
  cases q2 with
  | true =>
    refine Spec.body (C := cx [] 18) fits (fn := Tryd.f28) Tryd.func28 rfl (by decide) (by decide) (gI ?_)
    repeat' (first | ((first | refine C_r ?_ | refine O_r ?_); (conv => whnf); first | (refine ⟨fun hb => ?_, fun hb => ?_⟩ <;> try exact no_way) | refine B_o ?_ | refine fR ?_) | refine C_l (c1) ?_ | fail)
    all_goals first | exact ⟨by rw [hb]; rfl, rfl⟩ | trace_state
  | false =>
    refine Spec.body (C := cx [] 18) fits (fn := Tryd.f28) Tryd.func28 rfl (by decide) (by decide) (gI ?_)
    repeat' (first | ((first | refine C_r ?_ | refine O_r ?_); (conv => whnf); first | (refine ⟨fun hb => ?_, fun hb => ?_⟩ <;> try exact no_way) | refine B_o ?_ | refine fR ?_) | refine C_l (c1) ?_ | fail)
    all_goals first | exact ⟨rfl, rfl⟩ | trace_state
theorem ixFind [GVals] (w : ByteArray) (l : List File) (hl : l.length < 2 ^ 40) (hx : ∀ x ∈ l, x.path.size < 2 ^ 31) : Am.Spec Tryd.prog 27 [lst File.row l, .one (.fn (.func 28) [] [.ptr 0 0])] (wantS w) (fun v s => v = int .i64 (ixP (hitP w) l 0) ∧ s = wantS w) := by
  generalize hfb : ixP (hitP w) l 0 = fb
  refine Spec.body (C := cx [] 19) fits (fn := Tryd.f27) Tryd.func27 rfl (by decide) (by decide) (gI ?_)
  repeat' (first | (refine C_r ?_; (conv => whnf); first | refine A_o ?_) | fail)
  refine wLoop [0, 1, 7, 8] 1 (l.length + 1) ?_
  refine (fun key => key l [] _ rfl rfl hfb.symm :
    (∀ (rest done : List File) (j : Int), l = done ++ rest → j = done.length → fb = ixP (hitP w) rest j →
    WR2 _ _ _ _ _ (rest.length + 1) [(0, lst File.row l), (1, .one (.fn (.func 28) [] [.ptr 0 0])), (7, int .i64 (l.map File.row).length), (8, int .i64 j)] (wantS w)) → _) ?_
  intro rest
  induction rest with
  | nil =>
    intro done j h1 hj hr
    have hlen : l.length = done.length := by rw [h1]; simp
    have q : decide (j < ((l.map File.row).length : Int)) = false := by rw [decide_eq_false_iff_not, List.length_map]; omega
    refine wR (gI ?_)
    repeat' (first | ((first | refine C_r ?_ | refine O_r ?_); (conv => whnf); first | (refine ⟨fun hb => ?_, fun hb => ?_⟩ <;> try exact no_way) | refine A_o ?_ | refine fR ?_) | fail)
    exact ⟨by rw [hr]; rfl, rfl⟩
  | cons x rest ih =>
    intro done j h1 hj hr
    have hlen : l.length = done.length + (rest.length + 1) := by rw [h1]; simp
    have q : decide (j < ((l.map File.row).length : Int)) = true := by rw [decide_eq_true_eq, List.length_map]; omega
    have hc := cloFind w x (hx x (by rw [h1]; simp))
    have hat : l[j.toNat]? = some x := by rw [h1, hj]; simp
    have g2 := at_of (f := File.row) hat
    rw [ixP] at hr
    have e7 : IntKind.i64.wrap (j + 1) = j + 1 := by rw [wrap_ok (by omega) (by omega)]
    have g := fun h => ih (done ++ [x]) (j + 1) (by rw [h1]; simp) (by rw [hj]; simp) h
    clear ih
    obtain ⟨xp, xt⟩ := x
    cases hp : hitP w ⟨xp, xt⟩ with
    | true =>
      rw [hp] at hc hr
      refine wR (gI ?_)
      repeat' (first | ((first | refine C_r ?_ | refine O_r ?_); (conv => whnf); first | (refine ⟨fun hb => ?_, fun hb => ?_⟩ <;> try exact no_way) | refine B_o ?_ | refine fR ?_) | refine fun k => WL.crpU [0] (wantS w) _ _ hc (oW ?_ _) | refine X_l ?_ | fail)
      exact ⟨by rw [hr]; rfl, rfl⟩
    | false =>
      rw [hp] at hc hr
      refine wR (gI ?_)
      repeat' (first | ((first | refine C_r ?_ | refine O_r ?_); (conv => whnf); first | (refine ⟨fun hb => ?_, fun hb => ?_⟩ <;> try exact no_way) | refine B_o ?_ | refine R_o ?_) | refine fun k => WL.crpU [0] (wantS w) _ _ hc (oW ?_ _) | refine X_l ?_ | fail)
      rw [e7]; exact rE (g hr)
theorem findR [GVals] (l : List File) (path : ByteArray) (hl : l.length < 2 ^ 40) (hx : ∀ x ∈ l, x.path.size < 2 ^ 31) (hp : path.size < 2 ^ 31) : Comp Tryd.prog 12 [lst File.row l, str path] (nbV (findA l path)) := by
  have c1 := cleanR path (by omega)
  unfold findA
  generalize cleanA path = q at *
  obtain ⟨q1, q2⟩ := q
  dsimp only at c1 ⊢
  cases q2 with
  | false =>
    refine Spec.body (C := cx [] 23) fits (fn := Tryd.f12) Tryd.func12 rfl (by decide) (by decide) (gI ?_)
    repeat' (first | ((first | refine C_r ?_ | refine O_r ?_); (conv => whnf); first | (refine ⟨fun hb => ?_, fun hb => ?_⟩ <;> try exact no_way) | refine B_o ?_ | refine fR ?_) | refine C_l (c1) ?_ | fail)
    all_goals first | exact ⟨rfl, rfl⟩ | trace_state
  | true =>
    have hc := ixFind q1 l hl hx
    have hge := ixP_ge (hitP q1) l 0 (by omega)
    unfold findW
    generalize ixP (hitP q1) l 0 = i at *
    cases hi : decide (i ≥ 0) with
    | true =>
      rw [decide_eq_true_eq] at hi
      have hm : (if i > 0 then i else 0) = i := by split <;> omega
      refine Spec.body (C := cx [] 23) fits (fn := Tryd.f12) Tryd.func12 rfl (by decide) (by decide) (gI ?_)
      repeat' (first | ((first | refine C_r ?_ | refine O_r ?_); (conv => whnf); first | (refine ⟨fun hb => ?_, fun hb => ?_⟩ <;> try exact no_way) | refine B_o ?_ | refine fR ?_) | refine C_l (c1) ?_ | refine fun k => WL.crpU [0] (wantS q1) _ _ hc (oW ?_ _) | fail)
      all_goals first | exact ⟨by rw [hm]; rfl, rfl⟩ | (rw [decide_eq_false_iff_not] at hb; omega)
    | false =>
      rw [decide_eq_false_iff_not] at hi
      have hm : (if i > 0 then i else 0) = 0 := by split <;> omega
      refine Spec.body (C := cx [] 23) fits (fn := Tryd.f12) Tryd.func12 rfl (by decide) (by decide) (gI ?_)
      repeat' (first | ((first | refine C_r ?_ | refine O_r ?_); (conv => whnf); first | (refine ⟨fun hb => ?_, fun hb => ?_⟩ <;> try exact no_way) | refine B_o ?_ | refine fR ?_) | refine C_l (c1) ?_ | refine fun k => WL.crpU [0] (wantS q1) _ _ hc (oW ?_ _) | fail)
      all_goals first | exact ⟨by rw [hm]; rfl, rfl⟩ | (rw [decide_eq_true_eq] at hb; omega)
theorem docFindR [GVals] (l : List File) (path : ByteArray) (hl : l.length < 2 ^ 40) (hx : ∀ x ∈ l, x.path.size < 2 ^ 31) (hp : path.size < 2 ^ 31) : Comp Tryd.prog 13 [lst File.row l, str path] (nbV (findA l path)) := by
  have c1 := cleanDocR path (by omega)
  generalize hfb : findA l path = fb
  unfold findA findW at hfb
  generalize cleanA path = q at *
  obtain ⟨q1, q2⟩ := q
  dsimp only at c1 hfb
  cases q2 with
  | false =>
    have hfb : ((0 : Int), false) = fb := hfb
    subst hfb
    refine Spec.body (C := cx [] 41) fits (fn := Tryd.f13) Tryd.func13 rfl (by decide) (by decide) (gI ?_)
    repeat' (first | ((first | refine C_r ?_ | refine O_r ?_); (conv => whnf); first | (refine ⟨fun hb => ?_, fun hb => ?_⟩ <;> try exact no_way) | refine A_o ?_ | refine B_o ?_) | refine C_l (c1) ?_ | fail)
    refine wLoop [0, 6, 7, 8] 0 1 ?_
    refine wR (gI ?_)
    repeat' (first | ((first | refine C_r ?_ | refine O_r ?_); (conv => whnf); first | (refine ⟨fun hb => ?_, fun hb => ?_⟩ <;> try exact no_way) | refine A_o ?_ | refine fR ?_) | fail)
    all_goals first | exact ⟨rfl, rfl⟩ | trace_state
  | true =>
    simp only [cond_true] at hfb
    refine Spec.body (C := cx [] 41) fits (fn := Tryd.f13) Tryd.func13 rfl (by decide) (by decide) (gI ?_)
    repeat' (first | ((first | refine C_r ?_ | refine O_r ?_); (conv => whnf); first | (refine ⟨fun hb => ?_, fun hb => ?_⟩ <;> try exact no_way) | refine A_o ?_ | refine B_o ?_) | refine C_l (c1) ?_ | fail)
    refine wLoop [0, 6, 7, 8] 0 (l.length + 1) ?_
    refine (fun key => key l [] 0 rfl rfl hfb.symm :
      (∀ (rest done : List File) (j : Int), l = done ++ rest → j = done.length → fb = (bif decide (ixP (hitP q1) rest j ≥ 0) then (ixP (hitP q1) rest j, true) else (0, false)) →
      WR2 _ _ _ _ _ (rest.length + 1) [(0, lst File.row l), (6, str q1), (7, Am.bool true), (8, int .i64 j)] []) → _) ?_
    intro rest
    induction rest with
    | nil =>
      intro done j h1 hj hr
      have hlen : l.length = done.length := by rw [h1]; simp
      have q : decide (j < ((l.map File.row).length : Int)) = false := by rw [decide_eq_false_iff_not, List.length_map]; omega
      have hr : fb = (0, false) := hr
      subst hr
      refine wR (gI ?_)
      repeat' (first | ((first | refine C_r ?_ | refine O_r ?_); (conv => whnf); first | (refine ⟨fun hb => ?_, fun hb => ?_⟩ <;> try exact no_way) | refine A_o ?_ | refine fR ?_) | fail)
      all_goals first | exact ⟨rfl, rfl⟩ | trace_state
    | cons x rest ih =>
      intro done j h1 hj hr
      have hlen : l.length = done.length + (rest.length + 1) := by rw [h1]; simp
      have q : decide (j < ((l.map File.row).length : Int)) = true := by rw [decide_eq_true_eq, List.length_map]; omega
      have c2 := cleanDocR x.path (by have := hx x (by rw [h1]; simp); omega)
      have hat : l[j.toNat]? = some x := by rw [h1, hj]; simp
      have g2 := at_of (f := File.row) hat
      rw [ixP] at hr
      unfold hitP at hr
      have e7 : IntKind.i64.wrap (j + 1) = j + 1 := by rw [wrap_ok (by omega) (by omega)]
      have g := fun h => ih (done ++ [x]) (j + 1) (by rw [h1]; simp) (by rw [hj]; simp) h
      have hj0 : decide (j ≥ 0) = true := by rw [decide_eq_true_eq]; omega
      clear ih
      obtain ⟨xp, xt⟩ := x
      dsimp only at c2 hr
      generalize cleanA xp = p at *
      obtain ⟨p1, p2⟩ := p
      cases p2 with
      | false =>
        refine wR (gI ?_)
        repeat' (first | ((first | refine C_r ?_ | refine O_r ?_); (conv => whnf); first | (refine ⟨fun hb => ?_, fun hb => ?_⟩ <;> try exact no_way) | refine B_o ?_ | refine R_o ?_) | refine C_l (c2) ?_ | refine X_l ?_ | fail)
        all_goals (rw [e7]; exact rE (g hr))
      | true =>
        cases hw : p1 == q1 with
        | true =>
          have hr : fb = (bif decide ((bif true && p1 == q1 then j else _) ≥ 0) then (bif true && p1 == q1 then j else _, true) else (0, false)) := hr
          rw [hw] at hr
          have hr : fb = (bif decide (j ≥ 0) then (j, true) else (0, false)) := hr
          rw [hj0] at hr
          rw [hr]
          refine wR (gI ?_)
          repeat' (first | ((first | refine C_r ?_ | refine O_r ?_); (conv => whnf); first | (refine ⟨fun hb => ?_, fun hb => ?_⟩ <;> try exact no_way) | refine B_o ?_ | refine fR ?_) | refine C_l (c2) ?_ | refine X_l ?_ | fail)
          all_goals first | exact ⟨rfl, rfl⟩ | trace_state
        | false =>
          have hr : fb = (bif decide ((bif true && p1 == q1 then j else _) ≥ 0) then (bif true && p1 == q1 then j else _, true) else (0, false)) := hr
          rw [hw] at hr
          refine wR (gI ?_)
          repeat' (first | ((first | refine C_r ?_ | refine O_r ?_); (conv => whnf); first | (refine ⟨fun hb => ?_, fun hb => ?_⟩ <;> try exact no_way) | refine B_o ?_ | refine R_o ?_) | refine C_l (c2) ?_ | refine X_l ?_ | fail)
          all_goals (rw [e7]; exact rE (g hr))
end Go.Proofs.YtcmhpjnafkpofaaDoor
