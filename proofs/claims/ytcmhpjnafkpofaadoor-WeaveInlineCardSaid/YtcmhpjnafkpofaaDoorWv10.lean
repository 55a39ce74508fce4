/- The law WeaveInline. -/
import Derived.Test.YtcmhpjnafkpofaaDoorWv9
import Derived.Test.YtcmhpjnafkpofaaDoorWv7
set_option linter.unusedVariables false
set_option linter.unusedSimpArgs false
namespace Go.Proofs.YtcmhpjnafkpofaaDoor
open Go Go.Am Go.Proofs
/-- an element of a growing array, in a drawn region -/
theorem Xa_d [GVals] {C : Cx} {all l : List Oper} {e : Env} {σ : St} {o : Oper} {acc : List Rec} {Q : Env → St → Prop} {t : TypeId} {x i : Operand} {et : TypeId} {n id ep len : Nat} {rows : List (List D)} {kx : IntKind} {j : Int} {row row' : List D} {e' : Env} {T F : List Nat} (h : ∀ k, DL C all l k e' σ (⟨o.dst, .undef, [], T, F, [], []⟩ :: acc) Q) (ho : o.op = .indexAddr t x i := by rfl) (hg : guardOk e all o = some true := by rfl) (hd : dstOk C.n o = true := by rfl)
    (h1 : C.T.und t = some (.slice et) := by rfl) (h2 : C.T.size et = some n := by rfl) (hx : ev (opEnv e o) x = some (.one (.arr id ep len)) := by rfl) (hi : ev (opEnv e o) i = some (.one (.d (.sc (.int kx j)))) := by rfl) (hl : inFoot (foot (opEnv e o) o) σ id = some (.arr ep false n rows) := by rfl) (hn : len = rows.length := by rfl)
    (h3 : rows[j.toNat]? = some row := by first | assumption | exact at_mid (by assumption) (by assumption) | exact at_of (by assumption)) (h4 : 0 ≤ j := by first | omega | assumption) (h6 : fL row = some row' := by rfl) (hT' : fL (reads all o) = some T := by rfl) (hF' : fL (foot (opEnv e o) o) = some F := by rfl) (he : nput e o.dst (.one (.rptr row')) = some e' := by rfl) (hT : C.T.fits C.P := by exact fits) : DLk C all (o :: l) e σ acc Q := fun k => by
  rw [fL_eq] at h6; injection h6 with h6; subst h6
  have hm : makes C o = false := by unfold makes; rw [ho]
  exact DL.q' hT hg hd hm (aop_ixa ho h1 h2 hx hi hl hn h4 h3) (fV_eq _) hT' hF' he (h _)
attribute [local irreducible] W WL DL WO RoundEnd
set_option maxRecDepth 10000
set_option maxHeartbeats 4000000
set_option linter.unusedVariables false
set_option linter.unusedSimpArgs false
theorem inlineBig [GVals] (a b c : ByteArray) (h : (decide ((a.size : Int) > 200) || (decide ((b.size : Int) > 200) || decide ((c.size : Int) > 200))) = true) : Comp Tryd.prog 6 [str a, str b, str c] (Am.bool true) := by
  have c0 := alive10
  cases k1 : decide ((a.size : Int) > 200) with
  | true =>
    refine Spec.body (C := cx [(106, false)] 163) fits (fn := Tryd.f6) Tryd.func6 rfl (by decide) (by decide) (gI ?_)
    repeat' (first | ((first | refine C_r ?_ | refine O_r ?_); (conv => whnf); first | (refine ⟨fun hb => ?_, fun hb => ?_⟩ <;> try exact no_way) | refine B_o ?_ | refine fR ?_) | refine C_l (c0) ?_ | fail)
    all_goals exact ⟨rfl, rfl⟩
  | false =>
  cases k2 : decide ((b.size : Int) > 200) with
  | true =>
    refine Spec.body (C := cx [(106, false)] 163) fits (fn := Tryd.f6) Tryd.func6 rfl (by decide) (by decide) (gI ?_)
    repeat' (first | ((first | refine C_r ?_ | refine O_r ?_); (conv => whnf); first | (refine ⟨fun hb => ?_, fun hb => ?_⟩ <;> try exact no_way) | refine B_o ?_ | refine fR ?_) | refine C_l (c0) ?_ | fail)
    all_goals exact ⟨rfl, rfl⟩
  | false =>
    rw [k1, k2] at h
    have k3 : decide ((c.size : Int) > 200) = true := h
    refine Spec.body (C := cx [(106, false)] 163) fits (fn := Tryd.f6) Tryd.func6 rfl (by decide) (by decide) (gI ?_)
    repeat' (first | ((first | refine C_r ?_ | refine O_r ?_); (conv => whnf); first | (refine ⟨fun hb => ?_, fun hb => ?_⟩ <;> try exact no_way) | refine B_o ?_ | refine fR ?_) | refine C_l (c0) ?_ | fail)
    all_goals exact ⟨rfl, rfl⟩
def threeL (a b c : ByteArray) : List File := [⟨⟨#[]⟩, a⟩, ⟨⟨#[]⟩, b⟩, ⟨⟨#[]⟩, c⟩]
theorem three_inc (a b c : ByteArray) : incF (threeL a b c) = incT a + (incT b + (incT c + 0)) := rfl
theorem weaveInline [GVals] (a b c : ByteArray) : Comp Tryd.prog 6 [str a, str b, str c] (Am.bool true) := by
  cases hbig : (decide ((a.size : Int) > 200) || (decide ((b.size : Int) > 200) || decide ((c.size : Int) > 200))) with
  | true => exact inlineBig a b c hbig
  | false =>
  rw [Bool.or_eq_false_iff, Bool.or_eq_false_iff] at hbig
  obtain ⟨b1, b2, b3⟩ := hbig
  have s1 := of_decide_eq_false b1
  have s2 := of_decide_eq_false b2
  have s3 := of_decide_eq_false b3
  have c0 := alive10
  have c2 := includesR (threeL a b c) (show 3 < 2 ^ 20 by decide) (fun x hx => by
    have hx : x ∈ [(⟨⟨#[]⟩, a⟩ : File), ⟨⟨#[]⟩, b⟩, ⟨⟨#[]⟩, c⟩] := hx
    simp only [List.mem_cons, List.mem_nil_iff, or_false] at hx
    rcases hx with rfl | rfl | rfl
    · show a.size < _; omega
    · show b.size < _; omega
    · show c.size < _; omega)
  have hinc := three_inc a b c
  have ia := (incK_le a (a.size - 7) 0).1
  have ib := (incK_le b (b.size - 7) 0).1
  have ic := (incK_le c (c.size - 7) 0).1
  change 0 ≤ incT a at ia
  change 0 ≤ incT b at ib
  change 0 ≤ incT c at ic
  generalize incF (threeL a b c) = inc at *
  cases k4 : decide (inc > 0) with
  | true =>
    unfold threeL at c2
    refine Spec.body (C := cx [(106, false)] 163) fits (fn := Tryd.f6) Tryd.func6 rfl (by decide) (by decide) (gI ?_)
    repeat' (first | ((first | refine C_r ?_ | refine O_r ?_); (conv => whnf); first | (refine ⟨fun hb => ?_, fun hb => ?_⟩ <;> try exact no_way) | refine B_o ?_ | refine fR ?_) | refine C_l (c0) ?_ | refine C_l (c2) ?_ | fail)
    all_goals exact ⟨rfl, rfl⟩
  | false =>
  have k5 := of_decide_eq_false k4
  have za : incT a = 0 := by omega
  have zb : incT b = 0 := by omega
  have zc : incT c = 0 := by omega
  have c3 := refSplitR a 0 (by omega)
  have c4 := refSplitR b 1 (by omega)
  have c5 := refSplitR c 0 (by omega)
  have hineq := fun x y z h1 h2 h3 => inline_eq (a := a) (b := b) (c := c) (x := x) (y := y) (z := z) h1 h2 h3 za zb zc
  have hfa := fun x h => lexA_file (n := 0) (s := a) (l := x) h
  have hfb := fun x h => lexA_file (n := 1) (s := b) (l := x) h
  have hfc := fun x h => lexA_file (n := 0) (s := c) (l := x) h
  have hla := fun x h => lexA_len (n := 0) (s := a) (l := x) h
  have hlb := fun x h => lexA_len (n := 1) (s := b) (l := x) h
  have hlc := fun x h => lexA_len (n := 0) (s := c) (l := x) h
  change Comp Tryd.prog _ _ (splitV 0 (lexA 0 a)) at c3
  change Comp Tryd.prog _ _ (splitV 1 (lexA 1 b)) at c4
  change Comp Tryd.prog _ _ (splitV 0 (lexA 0 c)) at c5
  have hsz : (a ++ midB ++ c).size ≤ 420 := by rw [ByteArray.size_append, ByteArray.size_append, show midB.size = 14 from rfl]; omega
  have c6 := tokensR (inlL a b c) ⟨#[109]⟩ (fun x hx => by
    have hx : x ∈ [(⟨⟨#[109]⟩, a ++ midB ++ c⟩ : File), ⟨⟨#[110]⟩, b⟩] := hx
    simp only [List.mem_cons, List.mem_nil_iff, or_false] at hx
    rcases hx with rfl | rfl
    · exact ⟨(show 1 ≤ 60 by decide), by show (a ++ midB ++ c).size ≤ 650; omega⟩
    · exact ⟨(show 1 ≤ 60 by decide), by show b.size ≤ 650; omega⟩) (show 2 < 2 ^ 30 by decide) (by decide)
  unfold threeL at c2
  generalize lexA 0 a = la at *
  generalize lexA 1 b = lb at *
  generalize lexA 0 c = lc at *
  cases la with
  | error q =>
    clear hineq hfa hfb hfc hla hlb hlc c6
    cases lb <;> cases lc
    all_goals unfold splitV faultV at c3 c4 c5
    all_goals refine Spec.body (C := cx [(106, false)] 163) fits (fn := Tryd.f6) Tryd.func6 rfl (by decide) (by decide) (gI ?_)
    all_goals repeat' (first | ((first | refine C_r ?_ | refine O_r ?_); (conv => whnf); first | (refine ⟨fun hb => ?_, fun hb => ?_⟩ <;> try exact no_way) | refine B_o ?_ | refine fR ?_) | refine C_l (c0) ?_ | refine C_l (c2) ?_ | refine C_l (c3) ?_ | refine C_l (c4) ?_ | refine C_l (c5) ?_ | fail)
    all_goals first | exact ⟨rfl, rfl⟩ | trace_state
  | ok x =>
  cases lb with
  | error q =>
    clear hineq hfa hfb hfc hla hlb hlc c6
    cases lc
    all_goals unfold splitV faultV at c3 c4 c5
    all_goals refine Spec.body (C := cx [(106, false)] 163) fits (fn := Tryd.f6) Tryd.func6 rfl (by decide) (by decide) (gI ?_)
    all_goals repeat' (first | ((first | refine C_r ?_ | refine O_r ?_); (conv => whnf); first | (refine ⟨fun hb => ?_, fun hb => ?_⟩ <;> try exact no_way) | refine B_o ?_ | refine fR ?_) | refine C_l (c0) ?_ | refine C_l (c2) ?_ | refine C_l (c3) ?_ | refine C_l (c4) ?_ | refine C_l (c5) ?_ | fail)
    all_goals first | exact ⟨rfl, rfl⟩ | trace_state
  | ok y =>
  cases lc with
  | error q =>
    clear hineq hfa hfb hfc hla hlb hlc c6
    unfold splitV faultV at c3 c4 c5
    refine Spec.body (C := cx [(106, false)] 163) fits (fn := Tryd.f6) Tryd.func6 rfl (by decide) (by decide) (gI ?_)
    repeat' (first | ((first | refine C_r ?_ | refine O_r ?_); (conv => whnf); first | (refine ⟨fun hb => ?_, fun hb => ?_⟩ <;> try exact no_way) | refine B_o ?_ | refine fR ?_) | refine C_l (c0) ?_ | refine C_l (c2) ?_ | refine C_l (c3) ?_ | refine C_l (c4) ?_ | refine C_l (c5) ?_ | fail)
    all_goals first | exact ⟨rfl, rfl⟩ | trace_state
  | ok z =>
    obtain ⟨d1, d2, hw⟩ := hineq x y z rfl rfl rfl
    rw [hw] at c6
    have hat := inline_at (hfa x rfl) (hfb y rfl) (hfc z rfl) d1 d2
    have lx := hla x rfl
    have ly := hlb y rfl
    have lz := hlc z rfl
    have hTl : (x ++ y ++ (z.map (shT d1)).map (shT d2)).length = x.length + y.length + z.length := by simp only [List.length_append, List.length_map]
    generalize x ++ y ++ (z.map (shT d1)).map (shT d2) = T at *
    unfold splitV faultV at c3 c4 c5
    unfold wvV at c6
    dsimp only at c6
    have c6 : Comp Tryd.prog 19 [.one (.d (.list [[.sc (.string ⟨#[109]⟩), .sc (.string (a ++ ⟨#[10, 35, 105, 110, 99, 108, 117, 100, 101, 32, 34, 110, 34, 10]⟩ ++ c))], [.sc (.string ⟨#[110]⟩), .sc (.string b)]])), str ⟨#[109]⟩] (.tup [.one (.d (.list (T.map Tok.row))), .agg [.d (.sc (.int .i64 0)), .d (.sc (.int .i64 0)), .d (.sc (.complex .f64 (F 0) (F 0)))]]) := c6
    have z0 : (⟨#[10, 35, 105, 110, 99, 108, 117, 100, 101, 32, 34, 110, 34, 10]⟩ : ByteArray).size = 14 := rfl
    have z1 : a.size + (⟨#[10, 35, 105, 110, 99, 108, 117, 100, 101, 32, 34, 110, 34, 10]⟩ : ByteArray).size ≤ 1000 := by omega
    have z2 : (a ++ (⟨#[10, 35, 105, 110, 99, 108, 117, 100, 101, 32, 34, 110, 34, 10]⟩ : ByteArray)).size + c.size ≤ 1000 := by rw [ByteArray.size_append]; omega
    have mx : ((x.map Tok.row).length : Int) = (x.length : Int) := by rw [List.length_map]
    have my : ((y.map Tok.row).length : Int) = (y.length : Int) := by rw [List.length_map]
    have mz : ((z.map Tok.row).length : Int) = (z.length : Int) := by rw [List.length_map]
    have mT : ((T.map Tok.row).length : Int) = (T.length : Int) := by rw [List.length_map]
    have w1 : IntKind.i64.wrap (((x.map Tok.row).length : Int) + ((y.map Tok.row).length : Int)) = (x.length : Int) + y.length := by rw [mx, my, wrap_ok (by omega) (by omega)]
    have w2 : IntKind.i64.wrap (IntKind.i64.wrap (((x.map Tok.row).length : Int) + ((y.map Tok.row).length : Int)) + ((z.map Tok.row).length : Int)) = (T.length : Int) := by rw [w1, mz, wrap_ok (by omega) (by omega)]; omega
    have k6 : (!(((T.map Tok.row).length : Int) == IntKind.i64.wrap (IntKind.i64.wrap (((x.map Tok.row).length : Int) + ((y.map Tok.row).length : Int)) + ((z.map Tok.row).length : Int)))) = false := by
      rw [w2, mT]; simp
    refine Spec.body (C := cx [(106, false)] 163) fits (fn := Tryd.f6) Tryd.func6 rfl (by decide) (by decide) (gI ?_)
    repeat' (first | ((first | refine C_r ?_ | refine O_r ?_); (conv => whnf); first | (refine ⟨fun hb => ?_, fun hb => ?_⟩ <;> try exact no_way) | refine A_o ?_ | refine B_o ?_) | refine C_l (c0) ?_ | refine C_l (c2) ?_ | refine C_l (c3) ?_ | refine C_l (c4) ?_ | refine C_l (c5) ?_ | refine C_l (c6) ?_ | refine SA_l ?_ | refine A_l ?_ | refine A1_l ?_ | fail)
    clear c0 c2 c3 c4 c5 c6 hw hineq hfa hfb hfc hla hlb hlc k6
    have hA : ∀ i : Nat, ((x.map Tok.row ++ y.map Tok.row) ++ z.map Tok.row)[i]? = ((x ++ y ++ z)[i]?).map Tok.row := fun i => by
      rw [← List.map_append, ← List.map_append, List.getElem?_map]
    generalize hrows : (x.map Tok.row ++ y.map Tok.row) ++ z.map Tok.row = rows at *
    refine wLoop [8, 10, 14, 16, 17] 5 (T.length + 1) ?_
    refine (fun key => key T.length 0 (by omega) :
      (∀ (n i : Nat), i + n = T.length →
      WR2 _ _ _ _ _ (n + 1) [(8, lst Tok.row x), (10, lst Tok.row y), (14, lst Tok.row T), (16, .one (.arr 4 0 rows.length)), (17, int .i64 i)] [.var [.d (.sc (.int .i64 0)), .d (.sc (.int .i64 0)), .d (.sc (.complex .f64 (F 0) (F 0)))], .var [.d (.sc (.int .i64 0)), .d (.sc (.int .i64 0)), .d (.sc (.complex .f64 (F 0) (F 0)))], .var [.d (.sc (.int .i64 0)), .d (.sc (.int .i64 0)), .d (.sc (.complex .f64 (F 0) (F 0)))], .var [.d (.sc (.int .i64 0)), .d (.sc (.int .i64 0)), .d (.sc (.complex .f64 (F 0) (F 0)))], .arr 0 false 4 rows]) → _) ?_
    intro n
    induction n with
    | zero =>
      intro i hi
      have q : decide ((i : Int) < ((T.map Tok.row).length : Int)) = false := by rw [decide_eq_false_iff_not]; omega
      refine wR (gI ?_)
      repeat' (first | ((first | refine C_r ?_ | refine O_r ?_); (conv => whnf); first | (refine ⟨fun hb => ?_, fun hb => ?_⟩ <;> try exact no_way) | refine A_o ?_ | refine fR ?_) | fail)
      all_goals first | exact ⟨rfl, rfl⟩ | trace_state
    | succ n ih =>
      intro i hi
      have q : decide ((i : Int) < ((T.map Tok.row).length : Int)) = true := by rw [decide_eq_true_eq]; omega
      have e7 : IntKind.i64.wrap ((i : Int) + 1) = ((i + 1 : Nat) : Int) := by rw [wrap_ok (by omega) (by omega)]; omega
      obtain ⟨t, u, t1, t2, t3, t4, t5⟩ := hat i (by rw [List.length_append, List.length_append]; omega)
      have g := ih (i + 1) (by omega)
      have g2 := at_of (f := Tok.row) (show T[((i : Nat) : Int).toNat]? = some t from t1)
      have g3 : rows[((i : Nat) : Int).toNat]? = some (Tok.row u) := by
        have := hA i
        rw [t2] at this
        exact this
      obtain ⟨tk, tt, tf, tp⟩ := t
      obtain ⟨uk, ut, uf, up⟩ := u
      dsimp only at t3 t4 t5
      subst t3
      subst t4
      have v1 : (!(tk == tk)) = false := by simp
      have v2 : (!(tt == tt)) = false := by rw [show (tt == tt) = true from by rw [ba_beq]; simp]; rfl
      clear ih hat t1 t2 hA
      by_cases r1 : x.length ≤ i
      · have p1 : decide ((i : Int) ≥ ((x.map Tok.row).length : Int)) = true := by rw [decide_eq_true_eq]; omega
        by_cases r2 : i < x.length + y.length
        · have p2 : decide ((i : Int) < IntKind.i64.wrap (((x.map Tok.row).length : Int) + ((y.map Tok.row).length : Int))) = true := by rw [w1, decide_eq_true_eq]; omega
          rw [if_pos ⟨r1, r2⟩] at t5
          subst t5
          refine wR (gI ?_)
          repeat' (first | ((first | refine C_r ?_ | refine O_r ?_ | refine R_r ?_); (conv => whnf); first | (refine ⟨fun hb => ?_, fun hb => ?_⟩ <;> try exact no_way) | refine C_o ?_ | refine R_o ?_) | refine Xa_d ?_ | refine X_d ?_ | fail)
          all_goals first | (rw [e7]; exact rE g) | trace_state
        · have p2 : decide ((i : Int) < IntKind.i64.wrap (((x.map Tok.row).length : Int) + ((y.map Tok.row).length : Int))) = false := by rw [w1, decide_eq_false_iff_not]; omega
          rw [if_neg (by omega)] at t5
          subst t5
          refine wR (gI ?_)
          repeat' (first | ((first | refine C_r ?_ | refine O_r ?_ | refine R_r ?_); (conv => whnf); first | (refine ⟨fun hb => ?_, fun hb => ?_⟩ <;> try exact no_way) | refine C_o ?_ | refine R_o ?_) | refine Xa_d ?_ | refine X_d ?_ | fail)
          all_goals first | (rw [e7]; exact rE g) | trace_state
      · have p1 : decide ((i : Int) ≥ ((x.map Tok.row).length : Int)) = false := by rw [decide_eq_false_iff_not]; omega
        rw [if_neg (by omega)] at t5
        subst t5
        refine wR (gI ?_)
        repeat' (first | ((first | refine C_r ?_ | refine O_r ?_ | refine R_r ?_); (conv => whnf); first | (refine ⟨fun hb => ?_, fun hb => ?_⟩ <;> try exact no_way) | refine C_o ?_ | refine R_o ?_) | refine Xa_d ?_ | refine X_d ?_ | fail)
        all_goals first | (rw [e7]; exact rE g) | trace_state
theorem weaveInline_typed [GVals] {x0 x1 x2 : List D} (y0 : Typed Tryd.prog 9 x0) (y1 : Typed Tryd.prog 9 x1) (y2 : Typed Tryd.prog 9 x2) :
    Comp Tryd.prog 6 [argV (aggTy Tryd.prog 9) x0, argV (aggTy Tryd.prog 9) x1, argV (aggTy Tryd.prog 9) x2] (Am.bool true) := by
  have a1 : aggTy Tryd.prog 9 = false := by unfold aggTy; rw [Tryd.underlying9]
  rw [a1]
  obtain ⟨a, rfl, _⟩ := str_typed y0
  obtain ⟨b, rfl, _⟩ := str_typed y1
  obtain ⟨c, rfl, _⟩ := str_typed y2
  exact weaveInline a b c
end Go.Proofs.YtcmhpjnafkpofaaDoor
