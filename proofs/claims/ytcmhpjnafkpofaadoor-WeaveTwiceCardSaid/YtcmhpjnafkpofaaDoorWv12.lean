/- The law WeaveTwice. -/
import Derived.Test.YtcmhpjnafkpofaaDoorWv11
import Derived.Test.YtcmhpjnafkpofaaDoorWv7
set_option linter.unusedVariables false
set_option linter.unusedSimpArgs false
namespace Go.Proofs.YtcmhpjnafkpofaaDoor
open Go Go.Am Go.Proofs
attribute [local irreducible] W WL DL WO RoundEnd
set_option maxRecDepth 10000
set_option maxHeartbeats 4000000
set_option linter.unusedVariables false
set_option linter.unusedSimpArgs false
theorem splitBig [GVals] (s : ByteArray) (h : decide ((s.size : Int) > 20000) = true) : Comp Tryd.prog 22 [str s, int .i64 1] (.tup [.one (.d (.list [])), .agg [.d (.sc (.int .i64 9)), .d (.sc (.int .i64 1)), .d (.sc (.complex .f64 4607182418800017408 4607182418800017408))]]) := by
  refine Spec.body (C := cx [(6, false)] 71) fits (fn := Tryd.f22) Tryd.func22 rfl (by decide) (by decide) (gI ?_)
  repeat' (first | ((first | refine C_r ?_ | refine O_r ?_); (conv => whnf); first | (refine ⟨fun hb => ?_, fun hb => ?_⟩ <;> try exact no_way) | refine fR ?_) | fail)
  all_goals first | exact ⟨rfl, rfl⟩ | trace_state
theorem twiceLong [GVals] (s : ByteArray) (n : Int) (h : decide ((s.size : Int) > 100) = true) : Comp Tryd.prog 8 [str s, int .i64 n] (Am.bool true) := by
  have c0 := alive10
  cases k1 : decide ((s.size : Int) > 20000) with
  | true =>
    have c1 := splitBig s k1
    refine Spec.body (C := cx [] 93) fits (fn := Tryd.f8) Tryd.func8 rfl (by decide) (by decide) (gI ?_)
    repeat' (first | ((first | refine C_r ?_ | refine O_r ?_); (conv => whnf); first | (refine ⟨fun hb => ?_, fun hb => ?_⟩ <;> try exact no_way) | refine B_o ?_ | refine fR ?_) | refine C_l (c0) ?_ | refine C_l (c1) ?_ | fail)
    all_goals first | exact ⟨rfl, rfl⟩ | trace_state
  | false =>
    have h2 := of_decide_eq_false k1
    have c1 := refSplitR s 1 (by omega)
    generalize lexL 1 (s.size + 1) s.data.toList (1, 1) [] = lx at *
    cases lx
    all_goals unfold splitV faultV at c1
    all_goals refine Spec.body (C := cx [] 93) fits (fn := Tryd.f8) Tryd.func8 rfl (by decide) (by decide) (gI ?_)
    all_goals repeat' (first | ((first | refine C_r ?_ | refine O_r ?_); (conv => whnf); first | (refine ⟨fun hb => ?_, fun hb => ?_⟩ <;> try exact no_way) | refine B_o ?_ | refine fR ?_) | refine C_l (c0) ?_ | refine C_l (c1) ?_ | fail)
    all_goals first | exact ⟨rfl, rfl⟩ | trace_state
theorem twiceNo [GVals] (s : ByteArray) (n : Int) (y : List Tok) (inc : Int) (hs : decide ((s.size : Int) > 100) = false) (c1 : Comp Tryd.prog 22 [str s, int .i64 1] (splitV 1 (.ok y))) (c2 : Comp Tryd.prog 18 [lst File.row [⟨⟨#[]⟩, s⟩]] (int .i64 inc))
    (h : (decide (inc > 0) || (decide (n < 0) || decide (n > 20))) = true) : Comp Tryd.prog 8 [str s, int .i64 n] (Am.bool true) := by
  have c0 := alive10
  unfold splitV faultV at c1
  cases k1 : decide (inc > 0) with
  | true =>
    refine Spec.body (C := cx [] 93) fits (fn := Tryd.f8) Tryd.func8 rfl (by decide) (by decide) (gI ?_)
    repeat' (first | ((first | refine C_r ?_ | refine O_r ?_); (conv => whnf); first | (refine ⟨fun hb => ?_, fun hb => ?_⟩ <;> try exact no_way) | refine B_o ?_ | refine fR ?_) | refine C_l (c0) ?_ | refine C_l (c1) ?_ | refine C_l (c2) ?_ | fail)
    all_goals first | exact ⟨rfl, rfl⟩ | trace_state
  | false =>
  cases k2 : decide (n < 0) with
  | true =>
    refine Spec.body (C := cx [] 93) fits (fn := Tryd.f8) Tryd.func8 rfl (by decide) (by decide) (gI ?_)
    repeat' (first | ((first | refine C_r ?_ | refine O_r ?_); (conv => whnf); first | (refine ⟨fun hb => ?_, fun hb => ?_⟩ <;> try exact no_way) | refine B_o ?_ | refine fR ?_) | refine C_l (c0) ?_ | refine C_l (c1) ?_ | refine C_l (c2) ?_ | fail)
    all_goals first | exact ⟨rfl, rfl⟩ | trace_state
  | false =>
    rw [k1, k2] at h
    have k3 : decide (n > 20) = true := h
    refine Spec.body (C := cx [] 93) fits (fn := Tryd.f8) Tryd.func8 rfl (by decide) (by decide) (gI ?_)
    repeat' (first | ((first | refine C_r ?_ | refine O_r ?_); (conv => whnf); first | (refine ⟨fun hb => ?_, fun hb => ?_⟩ <;> try exact no_way) | refine B_o ?_ | refine fR ?_) | refine C_l (c0) ?_ | refine C_l (c1) ?_ | refine C_l (c2) ?_ | fail)
    all_goals first | exact ⟨rfl, rfl⟩ | trace_state
theorem rep_next (i : Nat) : ba (repL i) ++ lineB = ba (repL (i + 1)) := by
  apply ByteArray.ext
  apply Array.ext'
  rw [app_list, rep_snoc]
  rfl
theorem weaveTwice [GVals] (s : ByteArray) (n : Int) : Comp Tryd.prog 8 [str s, int .i64 n] (Am.bool true) := by
  cases hs : decide ((s.size : Int) > 100) with
  | true => exact twiceLong s n hs
  | false =>
  have s1 := of_decide_eq_false hs
  have c0 := alive10
  have c1 := refSplitR s 1 (by omega)
  have hfe := fun x h => lexA_file (n := 1) (s := s) (l := x) h
  have hle := fun x h => lexA_len (n := 1) (s := s) (l := x) h
  have hlo := lexA_low 1 s (by omega)
  have heq := fun y n h1 h2 h3 => twice_eq (s := s) (y := y) h1 h2 n h3
  change Comp Tryd.prog _ _ (splitV 1 (lexA 1 s)) at c1
  generalize lexA 1 s = lx at *
  cases lx with
  | error q =>
    unfold splitV faultV at c1
    refine Spec.body (C := cx [] 93) fits (fn := Tryd.f8) Tryd.func8 rfl (by decide) (by decide) (gI ?_)
    repeat' (first | ((first | refine C_r ?_ | refine O_r ?_); (conv => whnf); first | (refine ⟨fun hb => ?_, fun hb => ?_⟩ <;> try exact no_way) | refine B_o ?_ | refine fR ?_) | refine C_l (c0) ?_ | refine C_l (c1) ?_ | fail)
    all_goals first | exact ⟨rfl, rfl⟩ | trace_state
  | ok y =>
  have c2 := includesR [⟨⟨#[]⟩, s⟩] (show 1 < 2 ^ 20 by decide) (fun x hx => by
    rw [List.mem_singleton] at hx
    subst hx
    show s.size < _; omega)
  have hinc : incF [⟨⟨#[]⟩, s⟩] = incT s + 0 := rfl
  have is := (incK_le s (s.size - 7) 0).1
  change 0 ≤ incT s at is
  generalize incF [⟨⟨#[]⟩, s⟩] = inc at *
  cases hno : (decide (inc > 0) || (decide (n < 0) || decide (n > 20))) with
  | true => exact twiceNo s n y inc hs c1 c2 hno
  | false =>
  simp only [Bool.or_eq_false_iff] at hno
  obtain ⟨k1, k2, k3⟩ := hno
  have n1 := of_decide_eq_false k1
  have n2 := of_decide_eq_false k2
  have n3 := of_decide_eq_false k3
  obtain ⟨m, rfl⟩ := Int.eq_ofNat_of_zero_le (show 0 ≤ n by omega)
  have hweq := heq y m rfl (by omega) (by omega)
  have c3 := tokensR (twL (ba (repL m)) s) ⟨#[47, 97]⟩ (fun x hx => by
    have hx : x ∈ [(⟨⟨#[97]⟩, ba (repL m)⟩ : File), ⟨⟨#[98]⟩, s⟩] := hx
    simp only [List.mem_cons, List.mem_nil_iff, or_false] at hx
    rcases hx with rfl | rfl
    · refine ⟨(show 1 ≤ 60 by decide), ?_⟩
      show (repL m).length ≤ 650
      rw [rep_len]; omega
    · exact ⟨(show 1 ≤ 60 by decide), by show s.size ≤ 650; omega⟩) (show 2 < 2 ^ 30 by decide) (by decide)
  rw [hweq] at c3
  have hyl := hle y rfl
  have hlo : ∀ x ∈ y, x.at_.1 ≤ 20000 ∧ x.at_.2 ≤ 20000 := hlo
  have hRl := rep_length y m
  have hRg := rep_get (y := y) m
  generalize (List.replicate m y).flatten = R at *
  unfold splitV faultV at c1
  unfold wvV at c3
  dsimp only at c3
  rw [flt0_row] at c3
  have c3 : Comp Tryd.prog 19 [.one (.d (.list [[.sc (.string ⟨#[97]⟩), .sc (.string (ba (repL m)))], [.sc (.string ⟨#[98]⟩), .sc (.string s)]])), str ⟨#[47, 97]⟩] (.tup [.one (.d (.list (R.map Tok.row))), .agg [.d (.sc (.int .i64 0)), .d (.sc (.int .i64 0)), .d (.sc (.complex .f64 0 0))]]) := c3
  have e0 := fEq0
  have hm2 : m * y.length ≤ 20 * 100 := Nat.mul_le_mul (by omega) (by omega)
  clear heq hfe hle hweq hinc is
  refine Spec.body (C := cx [] 93) fits (fn := Tryd.f8) Tryd.func8 rfl (by decide) (by decide) (gI ?_)
  repeat' (first | ((first | refine C_r ?_ | refine O_r ?_); (conv => whnf); first | (refine ⟨fun hb => ?_, fun hb => ?_⟩ <;> try exact no_way) | refine A_o ?_ | refine B_o ?_) | refine C_l (c0) ?_ | refine C_l (c1) ?_ | refine C_l (c2) ?_ | fail)
  clear c0 c1 c2
  refine wLoop [0, 1, 6, 8, 9] 1 (m + 1) ?_
  refine (fun key => key m 0 ⟨#[]⟩ (by omega) rfl :
    (∀ (c i : Nat) (u : ByteArray), i + c = m → u = ba (repL i) →
    WR2 _ _ _ _ _ (c + 1) [(0, str s), (1, int .i64 m), (6, lst Tok.row y), (8, str u), (9, int .i64 i)] [.var [.d (.sc (.int .i64 0)), .d (.sc (.int .i64 0)), .d (.sc (.complex .f64 (F 0) (F 0)))]]) → _) ?_
  intro c
  induction c with
  | succ c ih =>
    intro i u hi hu
    have q : decide ((i : Int) < (m : Int)) = true := by rw [decide_eq_true_eq]; omega
    have e7 : IntKind.i64.wrap ((i : Int) + 1) = ((i + 1 : Nat) : Int) := by rw [wrap_ok (by omega) (by omega)]; omega
    have hz : u.size = 29 * i := by rw [hu]; exact rep_len i
    have hz1 : u.size + (⟨#[35, 105, 110, 99, 108, 117, 100, 101, 32, 34, 46, 47, 120, 47, 46, 46, 47, 98, 34, 32, 47, 47, 32, 97, 103, 97, 105, 110, 10]⟩ : ByteArray).size ≤ 1000 := by
      have : (⟨#[35, 105, 110, 99, 108, 117, 100, 101, 32, 34, 46, 47, 120, 47, 46, 46, 47, 98, 34, 32, 47, 47, 32, 97, 103, 97, 105, 110, 10]⟩ : ByteArray).size = 29 := rfl
      omega
    have g := ih (i + 1) (u ++ ⟨#[35, 105, 110, 99, 108, 117, 100, 101, 32, 34, 46, 47, 120, 47, 46, 46, 47, 98, 34, 32, 47, 47, 32, 97, 103, 97, 105, 110, 10]⟩) (by omega) (by rw [hu]; exact rep_next i)
    clear ih c3 hRg hlo
    refine wR (gI ?_)
    repeat' (first | ((first | refine C_r ?_ | refine O_r ?_); (conv => whnf); first | (refine ⟨fun hb => ?_, fun hb => ?_⟩ <;> try exact no_way) | refine B_o ?_ | refine R_o ?_) | refine SA_l ?_ | fail)
    all_goals first | (rw [e7]; exact rE g) | trace_state
  | zero =>
    intro i u hi hu
    have hi2 : i = m := by omega
    subst hi2
    subst hu
    have q : decide ((i : Int) < (i : Int)) = false := by rw [decide_eq_false_iff_not]; omega
    have mR : ((R.map Tok.row).length : Int) = (R.length : Int) := by rw [List.length_map]
    have my : ((y.map Tok.row).length : Int) = (y.length : Int) := by rw [List.length_map]
    have hcast : ((i * y.length : Nat) : Int) = (i : Int) * (y.length : Int) := by simp
    have w1 : IntKind.i64.wrap ((i : Int) * ((y.map Tok.row).length : Int)) = (R.length : Int) := by rw [my, ← hcast, wrap_ok (by omega) (by omega), hRl]
    have k6 : (!(((R.map Tok.row).length : Int) == IntKind.i64.wrap ((i : Int) * ((y.map Tok.row).length : Int)))) = false := by
      rw [w1, mR]; simp
    refine wR (gI ?_)
    repeat' (first | ((first | refine C_r ?_ | refine O_r ?_); (conv => whnf); first | (refine ⟨fun hb => ?_, fun hb => ?_⟩ <;> try exact no_way) | refine A_o ?_ | refine B_o ?_ | refine fR ?_) | refine C_l (c3) ?_ | fail)
    all_goals try (exfalso; simp only [beq_self_eq_true, e0, Bool.true_and, Bool.and_true, Bool.not_true] at hb; cases hb; done)
    clear c3 k6 w1
    refine wLoop [6, 10, 12] 2 (R.length + 1) ?_
    refine (fun key => key R.length 0 (by omega) :
      (∀ (c j : Nat), j + c = R.length →
      WR2 _ _ _ _ _ (c + 1) [(6, lst Tok.row y), (10, lst Tok.row R), (12, int .i64 j)] [.var [.d (.sc (.int .i64 0)), .d (.sc (.int .i64 0)), .d (.sc (.complex .f64 (F 0) (F 0)))], .var [.d (.sc (.int .i64 0)), .d (.sc (.int .i64 0)), .d (.sc (.complex .f64 0 0))]]) → _) ?_
    intro c
    induction c with
    | zero =>
      intro j hj
      have q : decide ((j : Int) < ((R.map Tok.row).length : Int)) = false := by rw [decide_eq_false_iff_not]; omega
      refine wR (gI ?_)
      repeat' (first | ((first | refine C_r ?_ | refine O_r ?_); (conv => whnf); first | (refine ⟨fun hb => ?_, fun hb => ?_⟩ <;> try exact no_way) | refine A_o ?_ | refine fR ?_) | fail)
      all_goals first | exact ⟨rfl, rfl⟩ | trace_state
    | succ c ih =>
      intro j hj
      have q : decide ((j : Int) < ((R.map Tok.row).length : Int)) = true := by rw [decide_eq_true_eq]; omega
      have e7 : IntKind.i64.wrap ((j : Int) + 1) = ((j + 1 : Nat) : Int) := by rw [wrap_ok (by omega) (by omega)]; omega
      have hjl : j < i * y.length := by omega
      have hyp : 0 < y.length := by
        rcases Nat.eq_zero_or_pos y.length with h | h
        · rw [h, Nat.mul_zero] at hjl; omega
        · exact h
      have hne : ((y.map Tok.row).length : Int) ≠ 0 := by omega
      have g := ih (j + 1) (by omega)
      have hmod : j % y.length < y.length := Nat.mod_lt _ hyp
      have hyt : y[j % y.length]? = some y[j % y.length] := List.getElem?_eq_getElem hmod
      have hRt := hRg j hjl
      rw [hyt] at hRt
      have hl2 := hlo y[j % y.length] (List.getElem_mem hmod)
      generalize y[j % y.length] = t at *
      have g2 := at_of (f := Tok.row) (show R[((j : Nat) : Int).toNat]? = some t from hRt)
      have htm : ((j : Int).tmod ((y.map Tok.row).length : Int)) = ((j % y.length : Nat) : Int) := by rw [my, Int.tmod_eq_emod_of_nonneg (by omega)]; rfl
      have g3 : (y.map Tok.row)[((j : Int).tmod ((y.map Tok.row).length : Int)).toNat]? = some (Tok.row t) := by
        rw [htm, Int.toNat_natCast, List.getElem?_map, hyt]; rfl
      have g4 : 0 ≤ (j : Int).tmod ((y.map Tok.row).length : Int) := by rw [htm]; omega
      obtain ⟨tk, tt, tf, tp⟩ := t
      dsimp only at hl2
      have v1 : (tt == tt) = true := by rw [ba_beq]; simp
      have v2 := fEq_self tp.1 (by omega)
      have v3 := fEq_self tp.2 (by omega)
      clear ih hRg hlo hyt hRt
      refine wR (gI ?_)
      repeat' (first | ((first | refine C_r ?_ | refine O_r ?_ | refine R_r ?_); (conv => whnf); first | (refine ⟨fun hb => ?_, fun hb => ?_⟩ <;> try exact no_way) | refine C_o ?_ | refine R_o ?_ | refine fR ?_) | refine V_d ?_ | refine X_d ?_ | fail)
      all_goals first | (rw [e7]; exact rE g) | (exfalso; simp only [beq_self_eq_true, v1, v2, v3, Bool.true_and, Bool.and_true, Bool.not_true] at hb; cases hb; done) | trace_state
theorem int_typed {xs : List D} (h : Typed Tryd.prog 3 xs) : ∃ n : Int, xs = [.sc (.int .i64 n)] := by
  obtain ⟨n, rfl, _⟩ := h.int_inv Tryd.underlying3
  exact ⟨n, rfl⟩
theorem weaveTwice_typed [GVals] {x0 x1 : List D} (y0 : Typed Tryd.prog 9 x0) (y1 : Typed Tryd.prog 3 x1) :
    Comp Tryd.prog 8 [argV (aggTy Tryd.prog 9) x0, argV (aggTy Tryd.prog 3) x1] (Am.bool true) := by
  have a1 : aggTy Tryd.prog 9 = false := by unfold aggTy; rw [Tryd.underlying9]
  have a2 : aggTy Tryd.prog 3 = false := by unfold aggTy; rw [Tryd.underlying3]
  rw [a1, a2]
  obtain ⟨a, rfl, _⟩ := str_typed y0
  obtain ⟨n, rfl⟩ := int_typed y1
  exact weaveTwice a n
end Go.Proofs.YtcmhpjnafkpofaaDoor
