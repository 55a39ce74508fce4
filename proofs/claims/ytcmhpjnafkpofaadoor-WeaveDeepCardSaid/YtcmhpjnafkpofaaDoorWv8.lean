/- The law WeaveDeep. -/
import Derived.Test.YtcmhpjnafkpofaaDoorWv7
set_option linter.unusedVariables false
set_option linter.unusedSimpArgs false
namespace Go.Proofs.YtcmhpjnafkpofaaDoor
open Go Go.Am Go.Proofs
attribute [local irreducible] W WL DL WO RoundEnd
set_option maxRecDepth 10000
set_option maxHeartbeats 4000000
set_option linter.unusedVariables false
set_option linter.unusedSimpArgs false
def namesB : ByteArray := ⟨#[97, 98, 99, 100, 101, 102, 103, 104, 105, 106, 107, 108]⟩
def incHead : ByteArray := ⟨#[35, 105, 110, 99, 108, 117, 100, 101, 32, 34]⟩
def deepF (n : Nat) (back : Int) (i : Nat) : File :=
  ⟨namesB.extract i (i + 1), bif decide (((i : Int) + 1) < n) then incHead ++ namesB.extract (i + 1) (i + 2) ++ ⟨#[34, 32, 120]⟩ else bif decide (back ≥ 0) then incHead ++ namesB.extract back.toNat (back.toNat + 1) ++ ⟨#[34]⟩ else ⟨#[120]⟩⟩
def deepL (n : Nat) (back : Int) : List File := (List.range n).map (deepF n back)
def shortB (L : List File) : Bool := L.all fun x => decide (x.path.size ≤ 60) && decide (x.text.size ≤ 650)
theorem shortB_of {L : List File} (h : shortB L = true) : shortF L := by
  unfold shortB at h
  rw [List.all_eq_true] at h
  intro x hx
  have := h x hx
  rw [Bool.and_eq_true] at this
  exact ⟨of_decide_eq_true this.1, of_decide_eq_true this.2⟩
def fltB (f : Flt) (e file : Int) (p : Nat) : Bool := (f.err == e && f.file == file) && (f.at_.1 == p && f.at_.2 == p)
def deepC (n : Nat) (back : Int) : Bool :=
  shortB (deepL n back) && (bif decide ((n : Int) > 8) then fltB (wovenA (deepL n back) ⟨#[97]⟩).1 6 7 1 && (wovenA (deepL n back) ⟨#[97]⟩).2.length == 0
    else bif decide (back ≥ 0) then fltB (wovenA (deepL n back) ⟨#[97]⟩).1 5 ((n : Int) - 1) 1 && (wovenA (deepL n back) ⟨#[97]⟩).2.length == 0
    else fltB (wovenA (deepL n back) ⟨#[97]⟩).1 0 0 0 && (wovenA (deepL n back) ⟨#[97]⟩).2.length == n)
theorem deep_all : ((List.range 13).all fun n => (List.range (n + 1)).all fun b => (n == 0) || deepC n ((b : Int) - 1)) = true := by kernel_rfl
theorem deep_one {n : Nat} {back : Int} (h1 : 1 ≤ n) (h2 : n ≤ 12) (h3 : -1 ≤ back) (h4 : back < n) : deepC n back = true := by
  have h := deep_all
  rw [List.all_eq_true] at h
  have h5 := h n (List.mem_range.2 (by omega))
  rw [List.all_eq_true] at h5
  have h6 := h5 (back + 1).toNat (List.mem_range.2 (by omega))
  have h7 : (n == 0) = false := by rw [beq_eq_false_iff_ne]; omega
  rw [h7, Bool.false_or] at h6
  have h8 : (((back + 1).toNat : Nat) : Int) - 1 = back := by omega
  rw [h8] at h6
  exact h6
theorem flt_of {f : Flt} {e file : Int} {p : Nat} (h : fltB f e file p = true) : f = ⟨e, file, (p, p)⟩ := by
  unfold fltB at h
  simp only [Bool.and_eq_true, beq_iff_eq] at h
  obtain ⟨fe, ff, fp1, fp2⟩ := f
  obtain ⟨⟨g1, g2⟩, g3, g4⟩ := h
  dsimp only at g1 g2 g3 g4
  rw [g1, g2, g3, g4]
theorem flt1_row (e file : Int) : ((⟨e, file, (1, 1)⟩ : Flt).row.map Cell.d) = [.d (.sc (.int .i64 e)), .d (.sc (.int .i64 file)), .d (.sc (.complex .f64 4607182418800017408 4607182418800017408))] := by
  show [Cell.d (.sc (.int .i64 e)), .d (.sc (.int .i64 file)), .d (.sc (.complex .f64 (F 1) (F 1)))] = _
  rw [F_one]
theorem fEq1 : fEq 4607182418800017408 4607182418800017408 = true := by
  have := fEq_self 1 (by decide)
  rwa [F_one] at this
theorem names_size (i : Nat) : (namesB.extract i (i + 1)).size ≤ 1 := by rw [ByteArray.size_extract]; omega
theorem deepNo [GVals] (n back : Int) (h : ((decide (n < 1) || decide (n > 12)) || (decide (back < -1) || decide (back ≥ n))) = true) : Comp Tryd.prog 7 [int .i64 n, int .i64 back] (Am.bool true) := by
  have c0 := alive10
  cases k1 : decide (n < 1) with
  | true =>
    refine Spec.body (C := cx [(7, false)] 107) fits (fn := Tryd.f7) Tryd.func7 rfl (by decide) (by decide) (gI ?_)
    repeat' (first | ((first | refine C_r ?_ | refine O_r ?_); (conv => whnf); first | (refine ⟨fun hb => ?_, fun hb => ?_⟩ <;> try exact no_way) | refine B_o ?_ | refine fR ?_) | refine C_l (c0) ?_ | fail)
    all_goals exact ⟨rfl, rfl⟩
  | false =>
  cases k2 : decide (n > 12) with
  | true =>
    refine Spec.body (C := cx [(7, false)] 107) fits (fn := Tryd.f7) Tryd.func7 rfl (by decide) (by decide) (gI ?_)
    repeat' (first | ((first | refine C_r ?_ | refine O_r ?_); (conv => whnf); first | (refine ⟨fun hb => ?_, fun hb => ?_⟩ <;> try exact no_way) | refine B_o ?_ | refine fR ?_) | refine C_l (c0) ?_ | fail)
    all_goals exact ⟨rfl, rfl⟩
  | false =>
  cases k3 : decide (back < -1) with
  | true =>
    refine Spec.body (C := cx [(7, false)] 107) fits (fn := Tryd.f7) Tryd.func7 rfl (by decide) (by decide) (gI ?_)
    repeat' (first | ((first | refine C_r ?_ | refine O_r ?_); (conv => whnf); first | (refine ⟨fun hb => ?_, fun hb => ?_⟩ <;> try exact no_way) | refine B_o ?_ | refine fR ?_) | refine C_l (c0) ?_ | fail)
    all_goals exact ⟨rfl, rfl⟩
  | false =>
    rw [k1, k2, k3] at h
    have k4 : decide (back ≥ n) = true := h
    refine Spec.body (C := cx [(7, false)] 107) fits (fn := Tryd.f7) Tryd.func7 rfl (by decide) (by decide) (gI ?_)
    repeat' (first | ((first | refine C_r ?_ | refine O_r ?_); (conv => whnf); first | (refine ⟨fun hb => ?_, fun hb => ?_⟩ <;> try exact no_way) | refine B_o ?_ | refine fR ?_) | refine C_l (c0) ?_ | fail)
    all_goals exact ⟨rfl, rfl⟩
theorem deepYes [GVals] (n : Nat) (back : Int) (h1 : 1 ≤ n) (h2 : n ≤ 12) (h3 : -1 ≤ back) (h4 : back < n) : Comp Tryd.prog 7 [int .i64 n, int .i64 back] (Am.bool true) := by
  have c0 := alive10
  have hd := deep_one h1 h2 h3 h4
  unfold deepC at hd
  rw [Bool.and_eq_true] at hd
  obtain ⟨hsh, hd⟩ := hd
  have hL := shortB_of hsh
  have hLn : (deepL n back).length = n := by unfold deepL; simp
  have c1 := tokensR (deepL n back) ⟨#[97]⟩ hL (by omega) (by decide)
  generalize wovenA (deepL n back) ⟨#[97]⟩ = q at *
  obtain ⟨qf, ql⟩ := q
  dsimp only at hd
  have k1 : decide ((n : Int) < 1) = false := decide_eq_false (by omega)
  have k2 : decide ((n : Int) > 12) = false := decide_eq_false (by omega)
  have k3 : decide (back < -1) = false := decide_eq_false (by omega)
  have k4 : decide (back ≥ (n : Int)) = false := decide_eq_false (by omega)
  refine Spec.body (C := cx [(7, false)] 107) fits (fn := Tryd.f7) Tryd.func7 rfl (by decide) (by decide) (gI ?_)
  repeat' (first | ((first | refine C_r ?_ | refine O_r ?_); (conv => whnf); first | (refine ⟨fun hb => ?_, fun hb => ?_⟩ <;> try exact no_way) | refine A_o ?_ | refine B_o ?_) | refine C_l (c0) ?_ | fail)
  clear c0 k1 k2 k3 k4
  refine wLoop [0, 1, 6, 7, 8] 1 (n + 1) ?_
  refine (fun key => key n 0 (by omega) :
    (∀ (c i : Nat), i + c = n →
    WR2 _ _ _ _ _ (c + 1) [(0, int .i64 n), (1, int .i64 back), (6, str namesB), (7, .one (.arr 0 0 (((List.range i).map (deepF n back)).map File.row).length)), (8, int .i64 i)] [.arr 0 false 2 (((List.range i).map (deepF n back)).map File.row)]) → _) ?_
  intro c
  induction c with
  | zero =>
    intro i hi
    have hi2 : i = n := by omega
    subst hi2
    have q : decide ((i : Int) < (i : Int)) = false := by rw [decide_eq_false_iff_not]; omega
    have c1 : Comp Tryd.prog 19 [lst File.row ((List.range i).map (deepF i back)), str ⟨#[97]⟩] (wvV (qf, ql)) := c1
    have hfl : ((List.range i).map (deepF i back)).length ≤ 12 := by simp; omega
    generalize (List.range i).map (deepF i back) = LL at *
    cases k8 : decide ((i : Int) > 8) with
    | true =>
      rw [k8] at hd
      simp only [cond_true, Bool.and_eq_true, beq_iff_eq] at hd
      have hq := flt_of hd.1
      have hl0 : ql = [] := List.length_eq_zero_iff.1 hd.2
      subst hq
      subst hl0
      unfold wvV at c1
      dsimp only at c1
      rw [flt1_row] at c1
      have ef := fEq1
      refine wR (gI ?_)
      repeat' (first | ((first | refine C_r ?_ | refine O_r ?_); (conv => whnf); first | (refine ⟨fun hb => ?_, fun hb => ?_⟩ <;> try exact no_way) | refine A_o ?_ | refine B_o ?_ | refine fR ?_) | refine C_l (c1) ?_ | fail)
      all_goals first | exact ⟨rfl, rfl⟩ | (exfalso; simp only [beq_self_eq_true, ef, Bool.true_and, Bool.and_true] at hb; cases hb) | trace_state
    | false =>
    rw [k8] at hd
    simp only [cond_false] at hd
    cases k9 : decide (back ≥ 0) with
    | true =>
      rw [k9] at hd
      simp only [cond_true, Bool.and_eq_true, beq_iff_eq] at hd
      have hq := flt_of hd.1
      have hl0 : ql = [] := List.length_eq_zero_iff.1 hd.2
      subst hq
      subst hl0
      unfold wvV at c1
      dsimp only at c1
      rw [flt1_row] at c1
      have ef := fEq1
      have e5 : IntKind.i64.wrap ((i : Int) - 1) = (i : Int) - 1 := wrap_ok (by omega) (by omega)
      refine wR (gI ?_)
      repeat' (first | ((first | refine C_r ?_ | refine O_r ?_); (conv => whnf); first | (refine ⟨fun hb => ?_, fun hb => ?_⟩ <;> try exact no_way) | refine A_o ?_ | refine B_o ?_ | refine fR ?_) | refine C_l (c1) ?_ | fail)
      all_goals first | exact ⟨rfl, rfl⟩ | (exfalso; simp only [beq_self_eq_true, e5, ef, Bool.true_and, Bool.and_true] at hb; cases hb) | trace_state
    | false =>
      rw [k9] at hd
      simp only [cond_false, Bool.and_eq_true, beq_iff_eq] at hd
      have hq := flt_of hd.1
      subst hq
      unfold wvV at c1
      dsimp only at c1
      have c1 : Comp Tryd.prog 19 [lst File.row LL, str ⟨#[97]⟩] (.tup [.one (.d (.list (ql.map Tok.row))), .agg (flt0.row.map .d)]) := c1
      rw [flt0_row] at c1
      have ef := fEq0
      have hql : (((ql.map Tok.row).length : Int) == (i : Int)) = true := by rw [beq_iff_eq, List.length_map, hd.2]
      refine wR (gI ?_)
      repeat' (first | ((first | refine C_r ?_ | refine O_r ?_); (conv => whnf); first | (refine ⟨fun hb => ?_, fun hb => ?_⟩ <;> try exact no_way) | refine A_o ?_ | refine B_o ?_ | refine fR ?_) | refine C_l (c1) ?_ | fail)
      all_goals first | exact ⟨rfl, rfl⟩ | (exfalso; simp only [beq_self_eq_true, ef, Bool.true_and, Bool.and_true] at hb; cases hb) | trace_state
  | succ c ih =>
    intro i hi
    have g := ih (i + 1) (by omega)
    have hnz : namesB.size = 12 := rfl
    have hli : (List.range i).length ≤ 12 := by rw [List.length_range]; omega
    have q : decide ((i : Int) < (n : Int)) = true := by rw [decide_eq_true_eq]; omega
    have e1 : IntKind.i64.wrap ((i : Int) + 1) = (i : Int) + 1 := wrap_ok (by omega) (by omega)
    have e2 : IntKind.i64.wrap ((i : Int) + 2) = (i : Int) + 2 := wrap_ok (by omega) (by omega)
    have zi : (i : Int) ≤ IntKind.i64.wrap ((i : Int) + 1) := by omega
    have zj : IntKind.i64.wrap ((i : Int) + 1) ≤ (namesB.size : Int) := by omega
    have zk : namesB.extract ((i : Nat) : Int).toNat (IntKind.i64.wrap ((i : Int) + 1)).toNat = namesB.extract i (i + 1) := by rw [e1]; congr 1
    have hsz0 : incHead.size = 10 := rfl
    rw [List.range_succ, List.map_append, List.map_append] at g
    have hcast : ((i + 1 : Nat) : Int) = IntKind.i64.wrap ((i : Int) + 1) := by rw [e1]; rfl
    rw [hcast] at g
    clear ih hd c1
    cases k5 : decide (((i : Int) + 1) < n) with
    | true =>
      have k5n : decide (IntKind.i64.wrap ((i : Int) + 1) < (n : Int)) = true := by rw [e1]; exact k5
      have z1 : IntKind.i64.wrap ((i : Int) + 1) ≤ IntKind.i64.wrap ((i : Int) + 2) := by omega
      have z2 : IntKind.i64.wrap ((i : Int) + 2) ≤ (namesB.size : Int) := by have := of_decide_eq_true k5; omega
      have z0 : 0 ≤ IntKind.i64.wrap ((i : Int) + 1) := by omega
      have z3 : namesB.extract (IntKind.i64.wrap ((i : Int) + 1)).toNat (IntKind.i64.wrap ((i : Int) + 2)).toNat = namesB.extract (i + 1) (i + 2) := by rw [e1, e2]; congr 1
      have hx1 : (namesB.extract (i + 1) (i + 2)).size ≤ 1 := names_size (i + 1)
      have z4 : (⟨#[35, 105, 110, 99, 108, 117, 100, 101, 32, 34]⟩ : ByteArray).size + (namesB.extract (i + 1) (i + 2)).size ≤ 1000 := by
        have : (⟨#[35, 105, 110, 99, 108, 117, 100, 101, 32, 34]⟩ : ByteArray).size = 10 := rfl
        omega
      have z5 : ((⟨#[35, 105, 110, 99, 108, 117, 100, 101, 32, 34]⟩ : ByteArray) ++ namesB.extract (i + 1) (i + 2)).size + (⟨#[34, 32, 120]⟩ : ByteArray).size ≤ 2000 := by
        rw [ByteArray.size_append]
        have : (⟨#[34, 32, 120]⟩ : ByteArray).size = 3 := rfl
        omega
      have hrow : [deepF n back i].map File.row = [[.sc (.string (namesB.extract i (i + 1))), .sc (.string ((⟨#[35, 105, 110, 99, 108, 117, 100, 101, 32, 34]⟩ : ByteArray) ++ namesB.extract (i + 1) (i + 2) ++ ⟨#[34, 32, 120]⟩))]] := by
        unfold deepF; rw [k5]; rfl
      rw [List.map_singleton, hrow] at g
      refine wR (gI ?_)
      repeat' (first | ((first | refine C_r ?_ | refine O_r ?_); (conv => whnf); first | (refine ⟨fun hb => ?_, fun hb => ?_⟩ <;> try exact no_way) | refine B_o ?_ | refine R_o ?_) | refine Kz_l ?_ (a := some (IntKind.i64.wrap ((i : Int) + 1))) (b := some (IntKind.i64.wrap ((i : Int) + 2))) (r := namesB.extract (i + 1) (i + 2)) (h0 := z0) (h1 := z1) (h2 := z2) (hr := z3) | refine Kz_l ?_ (a := some (i : Int)) (b := some (IntKind.i64.wrap ((i : Int) + 1))) (r := namesB.extract i (i + 1)) (h0 := Int.natCast_nonneg _) (h1 := zi) (h2 := zj) (hr := zk) | refine SA_l ?_ | refine A_l ?_ | fail)
      all_goals first | exact rE g | trace_state
    | false =>
    have k5n : decide (IntKind.i64.wrap ((i : Int) + 1) < (n : Int)) = false := by rw [e1]; exact k5
    cases k9 : decide (back ≥ 0) with
    | true =>
      have hb0 := of_decide_eq_true k9
      have e3 : IntKind.i64.wrap (back + 1) = back + 1 := wrap_ok (by omega) (by omega)
      have z1 : back ≤ IntKind.i64.wrap (back + 1) := by omega
      have z2 : IntKind.i64.wrap (back + 1) ≤ (namesB.size : Int) := by omega
      have z3 : namesB.extract back.toNat (IntKind.i64.wrap (back + 1)).toNat = namesB.extract back.toNat (back.toNat + 1) := by rw [e3]; congr 1; omega
      have hx1 := names_size back.toNat
      have z4 : (⟨#[35, 105, 110, 99, 108, 117, 100, 101, 32, 34]⟩ : ByteArray).size + (namesB.extract back.toNat (back.toNat + 1)).size ≤ 1000 := by
        have : (⟨#[35, 105, 110, 99, 108, 117, 100, 101, 32, 34]⟩ : ByteArray).size = 10 := rfl
        omega
      have z5 : ((⟨#[35, 105, 110, 99, 108, 117, 100, 101, 32, 34]⟩ : ByteArray) ++ namesB.extract back.toNat (back.toNat + 1)).size + (⟨#[34]⟩ : ByteArray).size ≤ 2000 := by
        rw [ByteArray.size_append]
        have : (⟨#[34]⟩ : ByteArray).size = 1 := rfl
        omega
      have hrow : [deepF n back i].map File.row = [[.sc (.string (namesB.extract i (i + 1))), .sc (.string ((⟨#[35, 105, 110, 99, 108, 117, 100, 101, 32, 34]⟩ : ByteArray) ++ namesB.extract back.toNat (back.toNat + 1) ++ ⟨#[34]⟩))]] := by
        unfold deepF; rw [k5, k9]; rfl
      rw [List.map_singleton, hrow] at g
      refine wR (gI ?_)
      repeat' (first | ((first | refine C_r ?_ | refine O_r ?_); (conv => whnf); first | (refine ⟨fun hb => ?_, fun hb => ?_⟩ <;> try exact no_way) | refine B_o ?_ | refine R_o ?_) | refine Kz_l ?_ (a := some back) (b := some (IntKind.i64.wrap (back + 1))) (r := namesB.extract back.toNat (back.toNat + 1)) (h0 := hb0) (h1 := z1) (h2 := z2) (hr := z3) | refine Kz_l ?_ (a := some (i : Int)) (b := some (IntKind.i64.wrap ((i : Int) + 1))) (r := namesB.extract i (i + 1)) (h0 := Int.natCast_nonneg _) (h1 := zi) (h2 := zj) (hr := zk) | refine SA_l ?_ | refine A_l ?_ | fail)
      all_goals first | exact rE g | trace_state
    | false =>
      have hrow : [deepF n back i].map File.row = [[.sc (.string (namesB.extract i (i + 1))), .sc (.string ⟨#[120]⟩)]] := by
        unfold deepF; rw [k5, k9]; rfl
      rw [List.map_singleton, hrow] at g
      refine wR (gI ?_)
      repeat' (first | ((first | refine C_r ?_ | refine O_r ?_); (conv => whnf); first | (refine ⟨fun hb => ?_, fun hb => ?_⟩ <;> try exact no_way) | refine B_o ?_ | refine R_o ?_) | refine Kz_l ?_ (a := some (i : Int)) (b := some (IntKind.i64.wrap ((i : Int) + 1))) (r := namesB.extract i (i + 1)) (h0 := Int.natCast_nonneg _) (h1 := zi) (h2 := zj) (hr := zk) | refine A_l ?_ | fail)
      all_goals first | exact rE g | trace_state
theorem int_typed {xs : List D} (h : Typed Tryd.prog 3 xs) : ∃ n : Int, xs = [.sc (.int .i64 n)] := by
  obtain ⟨n, rfl, _⟩ := h.int_inv Tryd.underlying3
  exact ⟨n, rfl⟩
theorem weaveDeep [GVals] (n back : Int) : Comp Tryd.prog 7 [int .i64 n, int .i64 back] (Am.bool true) := by
  cases h : ((decide (n < 1) || decide (n > 12)) || (decide (back < -1) || decide (back ≥ n))) with
  | true => exact deepNo n back h
  | false =>
    simp only [Bool.or_eq_false_iff, decide_eq_false_iff_not] at h
    obtain ⟨m, rfl⟩ := Int.eq_ofNat_of_zero_le (show 0 ≤ n by omega)
    exact deepYes m back (by omega) (by omega) (by omega) (by omega)
theorem weaveDeep_typed [GVals] {x0 x1 : List D} (y0 : Typed Tryd.prog 3 x0) (y1 : Typed Tryd.prog 3 x1) :
    Comp Tryd.prog 7 [argV (aggTy Tryd.prog 3) x0, argV (aggTy Tryd.prog 3) x1] (Am.bool true) := by
  have a0 : aggTy Tryd.prog 3 = false := by unfold aggTy; rw [Tryd.underlying3]
  rw [a0]
  obtain ⟨n, rfl⟩ := int_typed y0
  obtain ⟨m, rfl⟩ := int_typed y1
  exact weaveDeep n m
end Go.Proofs.YtcmhpjnafkpofaaDoor
