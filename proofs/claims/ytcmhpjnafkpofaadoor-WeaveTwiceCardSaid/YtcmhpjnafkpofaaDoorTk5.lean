/- The reader of tokens: the next token; a text taken apart. -/
import Derived.Test.YtcmhpjnafkpofaaDoorTk4
set_option linter.unusedVariables false
set_option linter.unusedSimpArgs false
namespace Go.Proofs.YtcmhpjnafkpofaaDoor
open Go Go.Am Go.Proofs
attribute [local irreducible] W WL DL WO RoundEnd
set_option maxRecDepth 10000
set_option maxHeartbeats 4000000
set_option linter.unusedVariables false
set_option linter.unusedSimpArgs false
def numOk (s : ByteArray) : Bool :=
  match numF (baseF s) (cutF s hexS).data.toList 0 with
  | some n => !(cutF s hexS == ⟨#[]⟩)
  | none => false
theorem numberOk [GVals] (s : ByteArray) (hs : s.size < 2 ^ 31) : ∃ n : Nat, Comp Tryd.prog 77 [str s] (.tup [.one (.d (.sc (.int .u64 n))), .one (.d (.sc (.bool (numOk s))))]) := by
  have c1 := numberR s hs
  unfold numOk
  cases h : numF (baseF s) (cutF s hexS).data.toList 0 with
  | none => rw [h] at c1; exact ⟨0, c1⟩
  | some n => rw [h] at c1; exact ⟨n, c1⟩
def wdN (s : ByteArray) : Int := runF innerF s.data.toList 0
def tokB (s : ByteArray) (b : UInt8) : Option (Int × Int × ByteArray) :=
  bif letterF b then some (1, wdN s, s.extract 0 (wdN s).toNat) else
  bif digitF b then (bif numOk (s.extract 0 (wdN s).toNat) then some (2, wdN s, s.extract 0 (wdN s).toNat) else none) else
  bif b.toNat == 34 then textF s else
  bif b.toNat == 35 then hashF s else
  bif decide (signF s > 0) then some (3, signF s, s.extract 0 (signF s).toNat) else none
theorem sign_bound (s : ByteArray) (h : 1 ≤ s.size) : 0 ≤ signF s ∧ signF s ≤ s.size := by
  unfold signF
  cases k1 : (decide ((s.size : Int) > 1) && twos.any (s.extract 0 2 == ·)) with
  | true =>
    rw [Bool.and_eq_true, decide_eq_true_eq] at k1
    simp only [cond_true]; omega
  | false =>
    simp only [cond_false]
    split
    · cases (oneS.data.toList.any (· == _)) with
      | true => simp only [cond_true]; omega
      | false => simp only [cond_false]; omega
    · omega
theorem tokTNo [GVals] (s : ByteArray) (b : UInt8) (file : Int) (p : Nat × Nat) (l : List Tok) (h0' : s.data.toList[(0 : Int).toNat]? = some b) (k1 : letterF b = false) (k2 : digitF b = false) (k3' : ((b.toNat : Int) == 34) = true) (c6 : Am.Spec Tryd.prog 78 [rdP] (rdS s file p l) (fun v σ => v = bool false ∧ σ = rdS s file p l)) : Am.Spec Tryd.prog 60 [rdP] (rdS s file p l) (fun v σ => v = bool false ∧ σ = rdS s file p l) := by
  have c1 := letterR b
  have c2 := digitR b
  rw [k1] at c1
  rw [k2] at c2
  unfold rdP rdS at *
  refine Spec.body (C := cx [] 88) fits (fn := Tryd.f60) Tryd.func60 rfl (by decide) (by decide) (gI ?_)
  repeat' (first | ((first | refine C_r ?_ | refine O_r ?_); (conv => whnf); first | (refine ⟨fun hb => ?_, fun hb => ?_⟩ <;> try exact no_way) | refine B_o ?_ | refine fR ?_) | refine C_l (c1) ?_ | refine C_l (c2) ?_ | refine fun k => WL.crpU [0, 1] [.var [.d (.sc (.string s)), .d (.sc (.int .i64 file)), .d (.sc (.complex .f64 (F p.1) (F p.2))), .arr 1 0 (l.map Tok.row).length], .arr 0 false 4 (l.map Tok.row)] _ _ c6 (oW ?_ _) | refine Xs_l ?_ | fail)
  all_goals exact ⟨rfl, rfl⟩
theorem tokTYes [GVals] (s : ByteArray) (b : UInt8) (file : Int) (p : Nat × Nat) (l : List Tok) (h0' : s.data.toList[(0 : Int).toNat]? = some b) (k1 : letterF b = false) (k2 : digitF b = false) (k3' : ((b.toNat : Int) == 34) = true) (s2 : ByteArray) (p2 : Nat × Nat) (l2 : List Tok) (c6 : Am.Spec Tryd.prog 78 [rdP] (rdS s file p l) (fun v σ => v = bool true ∧ σ = rdS s2 file p2 l2)) : Am.Spec Tryd.prog 60 [rdP] (rdS s file p l) (fun v σ => v = bool true ∧ σ = rdS s2 file p2 l2) := by
  have c1 := letterR b
  have c2 := digitR b
  rw [k1] at c1
  rw [k2] at c2
  unfold rdP rdS at *
  refine Spec.body (C := cx [] 88) fits (fn := Tryd.f60) Tryd.func60 rfl (by decide) (by decide) (gI ?_)
  repeat' (first | ((first | refine C_r ?_ | refine O_r ?_); (conv => whnf); first | (refine ⟨fun hb => ?_, fun hb => ?_⟩ <;> try exact no_way) | refine B_o ?_ | refine fR ?_) | refine C_l (c1) ?_ | refine C_l (c2) ?_ | refine fun k => WL.crpU [0, 1] [.var [.d (.sc (.string s)), .d (.sc (.int .i64 file)), .d (.sc (.complex .f64 (F p.1) (F p.2))), .arr 1 0 (l.map Tok.row).length], .arr 0 false 4 (l.map Tok.row)] _ _ c6 (oW ?_ _) | refine Xs_l ?_ | fail)
  all_goals exact ⟨rfl, rfl⟩
theorem tokHNo [GVals] (s : ByteArray) (b : UInt8) (file : Int) (p : Nat × Nat) (l : List Tok) (h0' : s.data.toList[(0 : Int).toNat]? = some b) (k1 : letterF b = false) (k2 : digitF b = false) (k3' : ((b.toNat : Int) == 34) = false) (k4' : ((b.toNat : Int) == 35) = true) (c6 : Am.Spec Tryd.prog 79 [rdP] (rdS s file p l) (fun v σ => v = bool false ∧ σ = rdS s file p l)) : Am.Spec Tryd.prog 60 [rdP] (rdS s file p l) (fun v σ => v = bool false ∧ σ = rdS s file p l) := by
  have c1 := letterR b
  have c2 := digitR b
  rw [k1] at c1
  rw [k2] at c2
  unfold rdP rdS at *
  refine Spec.body (C := cx [] 88) fits (fn := Tryd.f60) Tryd.func60 rfl (by decide) (by decide) (gI ?_)
  repeat' (first | ((first | refine C_r ?_ | refine O_r ?_); (conv => whnf); first | (refine ⟨fun hb => ?_, fun hb => ?_⟩ <;> try exact no_way) | refine B_o ?_ | refine fR ?_) | refine C_l (c1) ?_ | refine C_l (c2) ?_ | refine fun k => WL.crpU [0, 1] [.var [.d (.sc (.string s)), .d (.sc (.int .i64 file)), .d (.sc (.complex .f64 (F p.1) (F p.2))), .arr 1 0 (l.map Tok.row).length], .arr 0 false 4 (l.map Tok.row)] _ _ c6 (oW ?_ _) | refine Xs_l ?_ | fail)
  all_goals exact ⟨rfl, rfl⟩
theorem tokHYes [GVals] (s : ByteArray) (b : UInt8) (file : Int) (p : Nat × Nat) (l : List Tok) (h0' : s.data.toList[(0 : Int).toNat]? = some b) (k1 : letterF b = false) (k2 : digitF b = false) (k3' : ((b.toNat : Int) == 34) = false) (k4' : ((b.toNat : Int) == 35) = true) (s2 : ByteArray) (p2 : Nat × Nat) (l2 : List Tok) (c6 : Am.Spec Tryd.prog 79 [rdP] (rdS s file p l) (fun v σ => v = bool true ∧ σ = rdS s2 file p2 l2)) : Am.Spec Tryd.prog 60 [rdP] (rdS s file p l) (fun v σ => v = bool true ∧ σ = rdS s2 file p2 l2) := by
  have c1 := letterR b
  have c2 := digitR b
  rw [k1] at c1
  rw [k2] at c2
  unfold rdP rdS at *
  refine Spec.body (C := cx [] 88) fits (fn := Tryd.f60) Tryd.func60 rfl (by decide) (by decide) (gI ?_)
  repeat' (first | ((first | refine C_r ?_ | refine O_r ?_); (conv => whnf); first | (refine ⟨fun hb => ?_, fun hb => ?_⟩ <;> try exact no_way) | refine B_o ?_ | refine fR ?_) | refine C_l (c1) ?_ | refine C_l (c2) ?_ | refine fun k => WL.crpU [0, 1] [.var [.d (.sc (.string s)), .d (.sc (.int .i64 file)), .d (.sc (.complex .f64 (F p.1) (F p.2))), .arr 1 0 (l.map Tok.row).length], .arr 0 false 4 (l.map Tok.row)] _ _ c6 (oW ?_ _) | refine Xs_l ?_ | fail)
  all_goals exact ⟨rfl, rfl⟩
theorem tokSNo [GVals] (s : ByteArray) (b : UInt8) (file : Int) (p : Nat × Nat) (l : List Tok) (h0' : s.data.toList[(0 : Int).toNat]? = some b) (k1 : letterF b = false) (k2 : digitF b = false) (k3' : ((b.toNat : Int) == 34) = false) (k4' : ((b.toNat : Int) == 35) = false) (n : Int) (c5 : Comp Tryd.prog 80 [str s] (int .i64 n)) (k5 : decide (n > 0) = false) : Am.Spec Tryd.prog 60 [rdP] (rdS s file p l) (fun v σ => v = bool false ∧ σ = rdS s file p l) := by
  have c1 := letterR b
  have c2 := digitR b
  rw [k1] at c1
  rw [k2] at c2
  unfold rdP rdS at *
  refine Spec.body (C := cx [] 88) fits (fn := Tryd.f60) Tryd.func60 rfl (by decide) (by decide) (gI ?_)
  repeat' (first | ((first | refine C_r ?_ | refine O_r ?_); (conv => whnf); first | (refine ⟨fun hb => ?_, fun hb => ?_⟩ <;> try exact no_way) | refine B_o ?_ | refine fR ?_) | refine C_l (c1) ?_ | refine C_l (c2) ?_ | refine C_l (c5) ?_ | refine Xs_l ?_ | fail)
  all_goals exact ⟨rfl, rfl⟩
theorem tokSYes [GVals] (s : ByteArray) (b : UInt8) (file : Int) (p : Nat × Nat) (l : List Tok) (h0' : s.data.toList[(0 : Int).toNat]? = some b) (k1 : letterF b = false) (k2 : digitF b = false) (k3' : ((b.toNat : Int) == 34) = false) (k4' : ((b.toNat : Int) == 35) = false) (n : Int) (hn : 0 ≤ n ∧ n ≤ s.size) (c5 : Comp Tryd.prog 80 [str s] (int .i64 n)) (k5 : decide (n > 0) = true) (s2 : ByteArray) (p2 : Nat × Nat) (l2 : List Tok) (c6 : Am.Spec Tryd.prog 75 [rdP, int .i64 3, int .i64 n, str (s.extract 0 n.toNat)] (rdS s file p l) (fun v σ => v = .tup [] ∧ σ = rdS s2 file p2 l2)) : Am.Spec Tryd.prog 60 [rdP] (rdS s file p l) (fun v σ => v = bool true ∧ σ = rdS s2 file p2 l2) := by
  have c1 := letterR b
  have c2 := digitR b
  rw [k1] at c1
  rw [k2] at c2
  unfold rdP rdS at *
  refine Spec.body (C := cx [] 88) fits (fn := Tryd.f60) Tryd.func60 rfl (by decide) (by decide) (gI ?_)
  repeat' (first | ((first | refine C_r ?_ | refine O_r ?_); (conv => whnf); first | (refine ⟨fun hb => ?_, fun hb => ?_⟩ <;> try exact no_way) | refine B_o ?_ | refine fR ?_) | refine C_l (c1) ?_ | refine C_l (c2) ?_ | refine C_l (c5) ?_ | refine fun k => WL.crpU [0, 1] [.var [.d (.sc (.string s)), .d (.sc (.int .i64 file)), .d (.sc (.complex .f64 (F p.1) (F p.2))), .arr 1 0 (l.map Tok.row).length], .arr 0 false 4 (l.map Tok.row)] _ _ c6 (oW ?_ _) | refine Xs_l ?_ | refine Kz_l ?_ | fail)
  all_goals exact ⟨rfl, rfl⟩
theorem tokenR [GVals] (s : ByteArray) (b : UInt8) (file : Int) (p : Nat × Nat) (l : List Tok) (hs : s.size < 2 ^ 31) (h0 : s.data.toList[0]? = some b) (hp : p.1 < 2 ^ 50 ∧ p.2 < 2 ^ 50) (hl : l.length < 2 ^ 40) : Am.Spec Tryd.prog 60 [rdP] (rdS s file p l) (fun v σ => v = (outS s file p l (tokB s b)).1 ∧ σ = (outS s file p l (tokB s b)).2) := by
  have h1 : 1 ≤ s.size := by
    have := (List.getElem?_eq_some_iff.1 h0).1
    have e : s.size = s.data.toList.length := rfl
    omega
  have h0' : s.data.toList[(0 : Int).toNat]? = some b := h0
  have c1 := letterR b
  have c2 := digitR b
  have c3 : Comp Tryd.prog 69 [str s, .one (.fn (.func 74) [] [])] (int .i64 (wdN s)) := runR 74 innerF innerR s (by omega)
  have hn : 0 ≤ wdN s ∧ wdN s ≤ s.size := run_size innerF s
  have hsn := sign_bound s h1
  have c5 := signR s b h0'
  unfold tokB
  cases k1 : letterF b with
  | true =>
    rw [k1] at c1
    have c6 := takeR s file p l 1 (wdN s) (s.extract 0 (wdN s).toNat) (by omega) hp hl hn.1 hn.2
    generalize wdN s = n at *
    simp only [cond_true, outS]
    unfold rdP rdS at *
    refine Spec.body (C := cx [] 88) fits (fn := Tryd.f60) Tryd.func60 rfl (by decide) (by decide) (gI ?_)
    repeat' (first | ((first | refine C_r ?_ | refine O_r ?_); (conv => whnf); first | refine B_o ?_ | refine fR ?_) | refine C_l (c1) ?_ | refine C_l (c3) ?_ | refine fun k => WL.crpU [0, 1] [.var [.d (.sc (.string s)), .d (.sc (.int .i64 file)), .d (.sc (.complex .f64 (F p.1) (F p.2))), .arr 1 0 (l.map Tok.row).length], .arr 0 false 4 (l.map Tok.row)] _ _ c6 (oW ?_ _) | refine Xs_l ?_ | refine Kz_l ?_ | fail)
    all_goals exact ⟨rfl, rfl⟩
  | false =>
  rw [k1] at c1
  simp only [cond_false]
  cases k2 : digitF b with
  | true =>
    rw [k2] at c2
    simp only [cond_true]
    obtain ⟨m, c7⟩ := numberOk (s.extract 0 (wdN s).toNat) (by simp [ByteArray.size_extract]; omega)
    have c6 := takeR s file p l 2 (wdN s) (s.extract 0 (wdN s).toNat) (by omega) hp hl hn.1 hn.2
    generalize wdN s = n at *
    cases k3 : numOk (s.extract 0 n.toNat) with
    | true =>
      rw [k3] at c7
      simp only [cond_true, outS]
      unfold rdP rdS at *
      refine Spec.body (C := cx [] 88) fits (fn := Tryd.f60) Tryd.func60 rfl (by decide) (by decide) (gI ?_)
      repeat' (first | ((first | refine C_r ?_ | refine O_r ?_); (conv => whnf); first | (refine ⟨fun hb => ?_, fun hb => ?_⟩ <;> try exact no_way) | refine B_o ?_ | refine fR ?_) | refine C_l (c1) ?_ | refine C_l (c2) ?_ | refine C_l (c3) ?_ | refine C_l (c7) ?_ | refine fun k => WL.crpU [0, 1] [.var [.d (.sc (.string s)), .d (.sc (.int .i64 file)), .d (.sc (.complex .f64 (F p.1) (F p.2))), .arr 1 0 (l.map Tok.row).length], .arr 0 false 4 (l.map Tok.row)] _ _ c6 (oW ?_ _) | refine Xs_l ?_ | refine Kz_l ?_ | fail)
      all_goals exact ⟨rfl, rfl⟩
    | false =>
      rw [k3] at c7
      simp only [cond_false, outS]
      unfold rdP rdS at *
      refine Spec.body (C := cx [] 88) fits (fn := Tryd.f60) Tryd.func60 rfl (by decide) (by decide) (gI ?_)
      repeat' (first | ((first | refine C_r ?_ | refine O_r ?_); (conv => whnf); first | (refine ⟨fun hb => ?_, fun hb => ?_⟩ <;> try exact no_way) | refine B_o ?_ | refine fR ?_) | refine C_l (c1) ?_ | refine C_l (c2) ?_ | refine C_l (c3) ?_ | refine C_l (c7) ?_ | refine Xs_l ?_ | refine Kz_l ?_ | fail)
      all_goals exact ⟨rfl, rfl⟩
  | false =>
  rw [k2] at c2
  simp only [cond_false]
  cases k3 : (b.toNat == 34) with
  | true =>
    have k3' : ((b.toNat : Int) == 34) = true := by rw [beq_iff_eq] at k3 ⊢; omega
    simp only [cond_true]
    have c6 := textR s file p l hs h1 hp hl
    cases ho : textF s with
    | none => rw [ho] at c6; exact tokTNo s b file p l h0' k1 k2 k3' c6
    | some q =>
      obtain ⟨qk, qn, qt⟩ := q
      rw [ho] at c6
      exact tokTYes s b file p l h0' k1 k2 k3' _ _ _ c6
  | false =>
  have k3' : ((b.toNat : Int) == 34) = false := by rw [beq_eq_false_iff_ne] at k3 ⊢; omega
  simp only [cond_false]
  cases k4 : (b.toNat == 35) with
  | true =>
    have k4' : ((b.toNat : Int) == 35) = true := by rw [beq_iff_eq] at k4 ⊢; omega
    simp only [cond_true]
    have c6 := hashR s file p l hs h1 hp hl
    cases ho : hashF s with
    | none => rw [ho] at c6; exact tokHNo s b file p l h0' k1 k2 k3' k4' c6
    | some q =>
      obtain ⟨qk, qn, qt⟩ := q
      rw [ho] at c6
      exact tokHYes s b file p l h0' k1 k2 k3' k4' _ _ _ c6
  | false =>
  have k4' : ((b.toNat : Int) == 35) = false := by rw [beq_eq_false_iff_ne] at k4 ⊢; omega
  simp only [cond_false]
  have c6 := takeR s file p l 3 (signF s) (s.extract 0 (signF s).toNat) (by omega) hp hl hsn.1 hsn.2
  cases k5 : decide (signF s > 0) with
  | true => exact tokSYes s b file p l h0' k1 k2 k3' k4' (signF s) hsn c5 k5 _ _ _ c6
  | false => exact tokSNo s b file p l h0' k1 k2 k3' k4' (signF s) c5 k5
end Go.Proofs.YtcmhpjnafkpofaaDoor
