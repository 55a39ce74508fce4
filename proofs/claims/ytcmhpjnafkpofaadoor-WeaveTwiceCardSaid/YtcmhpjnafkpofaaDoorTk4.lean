/- The reader of tokens: numbers. -/
import Derived.Test.YtcmhpjnafkpofaaDoorTk3
import Derived.Test.YtcmhpjnafkpofaaDoorEvx
import Derived.Test.YtcmhpjnafkpofaaDoorShelf
set_option linter.unusedVariables false
set_option linter.unusedSimpArgs false
namespace Go.Proofs.YtcmhpjnafkpofaaDoor
open Go Go.Am Go.Proofs
theorem ext_l [GVals] {C : Cx} {all l : List Oper} {e e' : Env} {σ : St} {o : Oper} {Q : Env → St → Prop} {xk : Xt} (hxk : XtOk C.P xk) {f : FuncId} {vs : List V} {v : V} (hv : extV xk f vs = some v) (h : ∀ k, WL C all l k e' σ Q) (hg : guardOk e all o = some true := by rfl) (hd : dstOk C.n o = true := by rfl) (hc : calleeOf e o = some (f, vs) := by rfl) (he : nput e o.dst v = some e' := by rfl) : ∀ k, WL C all (o :: l) k e σ Q := fun k => by
  rw [nput_eq] at he
  injection he with he
  subst he
  exact fun hall => WO.ext hxk (head_of hall) (by simpa using hg) hd hc hv (WL.tail hall (h (k + 1)))
theorem comp_stillX [GVals] {P : Program} {f : FuncId} {xs : List Value} {x : Value} {v : V} (hE : enters P f) (h : ∀ w, Calls P f xs.toArray w fun e w' => e = .returned x ∧ w' = w) (hv : ofValueX x = some v) : Comp P f (xs.map fun x => .one (.d (.sc x))) v := by
  refine ⟨hE, fun κ w ys hR hx => ?_⟩
  have := scal_args hx
  subst this
  refine (h w).mono fun en w' ⟨h1, h2⟩ => ?_
  subst h2
  obtain ⟨g1, g2⟩ := ofValueX_sound (κ := κ) (w := w') hv
  exact ⟨x, v, κ, [], h1, ⟨rfl, rfl⟩, g1, g2 _, .refl, hR⟩
attribute [local irreducible] W WL DL WO RoundEnd
set_option maxRecDepth 10000
set_option maxHeartbeats 4000000
set_option linter.unusedVariables false
set_option linter.unusedSimpArgs false
/-- a digit's value; 16: it is none -/
def valF (b : UInt8) : Nat := bif digitF b then b.toNat - 48 else bif decide (b.toNat ≥ 97) && decide (b.toNat ≤ 102) then b.toNat - 97 + 10 else bif decide (b.toNat ≥ 65) && decide (b.toNat ≤ 70) then b.toNat - 65 + 10 else 16
theorem valR [GVals] (b : UInt8) : Comp Tryd.prog 88 [int .u8 b.toNat] (int .u64 (valF b)) := by
  have c1 := digitR b
  have hlt := b.toNat_lt
  cases hd : digitF b with
  | true =>
    rw [hd] at c1
    have h1 : 48 ≤ b.toNat ∧ b.toNat ≤ 57 := by simpa [digitF] using hd
    have e1 : IntKind.u64.wrap (IntKind.u8.wrap ((b.toNat : Int) - 48)) = ((valF b : Nat) : Int) := by
      rw [wrap_u8' (by omega) (by omega), wrap_u64 (by omega) (by omega)]
      unfold valF; rw [hd]; simp only [cond_true]; omega
    refine Spec.body (C := cx [] 31) fits (fn := Tryd.f88) Tryd.func88 rfl (by decide) (by decide) (gI ?_)
    repeat' (first | ((first | refine C_r ?_ | refine O_r ?_); (conv => whnf); first | refine B_o ?_ | refine fR ?_) | refine C_l (c1) ?_ | fail)
    all_goals exact ⟨by rw [← e1]; rfl, rfl⟩
  | false =>
    rw [hd] at c1
    have e0 : valF b = (bif decide (b.toNat ≥ 97) && decide (b.toNat ≤ 102) then b.toNat - 97 + 10 else bif decide (b.toNat ≥ 65) && decide (b.toNat ≤ 70) then b.toNat - 65 + 10 else 16) := by unfold valF; rw [hd]; rfl
    rw [e0]
    have p1 : decide (b.toNat ≥ 97) = decide ((b.toNat : Int) ≥ 97) := by rw [decide_eq_decide]; omega
    have p2 : decide (b.toNat ≤ 102) = decide ((b.toNat : Int) ≤ 102) := by rw [decide_eq_decide]; omega
    have p3 : decide (b.toNat ≥ 65) = decide ((b.toNat : Int) ≥ 65) := by rw [decide_eq_decide]; omega
    have p4 : decide (b.toNat ≤ 70) = decide ((b.toNat : Int) ≤ 70) := by rw [decide_eq_decide]; omega
    rw [p1, p2, p3, p4]
    refine Spec.body (C := cx [] 31) fits (fn := Tryd.f88) Tryd.func88 rfl (by decide) (by decide) (gI ?_)
    repeat' (first | ((first | refine C_r ?_ | refine O_r ?_); (conv => whnf); first | (refine ⟨fun hb => ?_, fun hb => ?_⟩ <;> try exact no_way) | refine B_o ?_ | refine fR ?_) | refine C_l (c1) ?_ | fail)
    all_goals refine ⟨?_, rfl⟩
    all_goals simp only [*, Bool.true_and, Bool.false_and, cond_true, cond_false]
    all_goals try rfl
    all_goals simp only [decide_eq_true_eq, decide_eq_false_iff_not] at *
    all_goals (refine congrArg (int .u64) ?_; rw [wrap_u8' (by omega) (by omega), wrap_u64 (n := (b.toNat : Int) - _) (by omega) (by omega), wrap_u64 (by omega) (by omega)]; omega)
def hexS : ByteArray := ⟨#[48, 120]⟩
def cutF (s t : ByteArray) : ByteArray := bif preF s t then s.extract t.size s.size else s
theorem cutL [GVals] (s t : ByteArray) : Comp Tryd.prog 96 [str s, str t] (.tup [.one (.d (.sc (.string (cutF s t)))), .one (.d (.sc (.bool (preF s t))))]) := by
  have c1 := hasPreL s t
  unfold cutF
  cases h : preF s t with
  | true =>
    rw [h] at c1
    have h2 := pre_size h
    refine Spec.body (C := cx [] 15) fits (fn := Tryd.f96) Tryd.func96 rfl (by decide) (by decide) (gI ?_)
    repeat' (first | ((first | refine C_r ?_ | refine O_r ?_); (conv => whnf); first | (refine ⟨fun hb => ?_, fun hb => ?_⟩ <;> try exact no_way) | refine B_o ?_ | refine fR ?_) | refine C_l (c1) ?_ | refine Kz_l ?_ | fail)
    all_goals exact ⟨rfl, rfl⟩
  | false =>
    rw [h] at c1
    refine Spec.body (C := cx [] 15) fits (fn := Tryd.f96) Tryd.func96 rfl (by decide) (by decide) (gI ?_)
    repeat' (first | ((first | refine C_r ?_ | refine O_r ?_); (conv => whnf); first | (refine ⟨fun hb => ?_, fun hb => ?_⟩ <;> try exact no_way) | refine B_o ?_ | refine fR ?_) | refine C_l (c1) ?_ | fail)
    all_goals exact ⟨rfl, rfl⟩
theorem cutR [GVals] (s t : ByteArray) : Comp Tryd.prog 87 [str s, str t] (.tup [.one (.d (.sc (.string (cutF s t)))), .one (.d (.sc (.bool (preF s t))))]) := by
  have c1 := cutL s t
  refine Spec.body (C := cx [] 11) fits (fn := Tryd.f87) Tryd.func87 rfl (by decide) (by decide) (gI ?_)
  repeat' (first | ((first | refine C_r ?_ | refine O_r ?_); (conv => whnf); first | (refine ⟨fun hb => ?_, fun hb => ?_⟩ <;> try exact no_way) | refine B_o ?_ | refine fR ?_) | refine C_l (c1) ?_ | fail)
  all_goals exact ⟨by rw [hb], rfl⟩
theorem mulR [GVals] (x y : Nat) (hx : x < 18446744073709551616) (hy : y < 18446744073709551616) : Comp Tryd.prog 89 [int .u64 x, int .u64 y] (.tup [.one (.d (.sc (.int .u64 ((x * y / 18446744073709551616 : Nat) : Int)))), .one (.d (.sc (.int .u64 ((x * y % 18446744073709551616 : Nat) : Int))))]) := by
  exact comp_stillX (xs := [.int .u64 x, .int .u64 y]) ⟨_, Tryd.func89, by decide, rfl⟩ (fun w => Tryd.bits_Mul64 x y hx hy w) rfl
theorem addR (x y : Nat) : extV xt 90 [int .u64 x, int .u64 y, int .u64 0] = some (.tup [.one (.d (.sc (.int .u64 (((x : Int) + y + 0) % 18446744073709551616)))), .one (.d (.sc (.int .u64 (((x : Int) + y + 0) / 18446744073709551616))))]) := by
  have h1 : decide (0 ≤ (x : Int)) = true := decide_eq_true (by omega)
  have h2 : decide (0 ≤ (y : Int)) = true := decide_eq_true (by omega)
  have h3 : xAdd [.int .u64 x, .int .u64 y, .int .u64 0] = some (.tuple #[.int .u64 (((x : Int) + y + 0) % 18446744073709551616), .int .u64 (((x : Int) + y + 0) / 18446744073709551616)]) := by
    simp only [xAdd, h1, h2]; rfl
  show (match xAdd [.int .u64 x, .int .u64 y, .int .u64 0] with
    | some y => ofValueX y
    | none => none) = _
  rw [h3]; rfl
/-- a number: its digits, from the first on -/
def numF (base : Nat) : List UInt8 → Nat → Option Nat
  | [], n => some n
  | b :: r, n => bif decide (valF b < base) && decide (n * base + valF b < 18446744073709551616) then numF base r (n * base + valF b) else none
def numV (rest : ByteArray) : Option Nat → V
  | some n => .tup [.one (.d (.sc (.int .u64 n))), .one (.d (.sc (.bool (!(rest == ⟨#[]⟩)))))]
  | none => .tup [.one (.d (.sc (.int .u64 0))), .one (.d (.sc (.bool false)))]
theorem val_le (b : UInt8) : valF b ≤ 16 := by
  unfold valF
  cases hd : digitF b with
  | true =>
    have h1 : 48 ≤ b.toNat ∧ b.toNat ≤ 57 := by simpa [digitF] using hd
    simp only [cond_true]; omega
  | false =>
    simp only [cond_false]
    cases h1 : (decide (b.toNat ≥ 97) && decide (b.toNat ≤ 102)) with
    | true => simp at h1; simp only [cond_true]; omega
    | false =>
      simp only [cond_false]
      cases h2 : (decide (b.toNat ≥ 65) && decide (b.toNat ≤ 70)) with
      | true => simp at h2; simp only [cond_true]; omega
      | false => simp
def baseF (s : ByteArray) : Nat := bif preF s hexS then 16 else 10
theorem number16 [GVals] (s rest : ByteArray) (hz : rest.size < 2 ^ 31) (c1 : Comp Tryd.prog 87 [str s, str hexS] (.tup [.one (.d (.sc (.string rest))), .one (.d (.sc (.bool true)))])) : Comp Tryd.prog 77 [str s] (numV rest (numF 16 rest.data.toList 0)) := by
  generalize hfb : numV rest (numF 16 rest.data.toList 0) = fb
  have hsz : rest.size = rest.data.toList.length := rfl
  refine Spec.body (C := cx [] 57) fits (fn := Tryd.f77) Tryd.func77 rfl (by decide) (by decide) (gI ?_)
  repeat' (first | ((first | refine C_r ?_ | refine O_r ?_); (conv => whnf); first | (refine ⟨fun hb => ?_, fun hb => ?_⟩ <;> try exact no_way) | refine A_o ?_ | refine B_o ?_) | refine C_l (c1) ?_ | fail)
  refine wLoop [4, 5, 7, 21, 22] 0 (rest.data.toList.length + 1) ?_
  refine (fun key => key rest.data.toList [] _ 0 rfl rfl (by omega) hfb.symm :
    (∀ (r done : List UInt8) (j : Int) (n : Nat), rest.data.toList = done ++ r → j = done.length → n < 18446744073709551616 → fb = numV rest (numF 16 r n) →
    WR2 _ _ _ _ _ (r.length + 1) [(4, int .u64 ((16 : Nat) : Int)), (5, str rest), (7, int .u64 n), (21, int .i64 rest.size), (22, int .i64 j)] []) → _) ?_
  intro r
  induction r with
  | nil =>
    intro done j n h1 hj hn hr
    have hlen : rest.data.toList.length = done.length := by rw [h1]; simp
    refine wR (gI ?_)
    repeat' (first | ((first | refine C_r ?_ | refine O_r ?_); (conv => whnf); first | (refine ⟨fun hb => ?_, fun hb => ?_⟩ <;> try exact no_way) | refine A_o ?_ | refine fR ?_) | fail)
    all_goals exact ⟨by rw [hr]; first | rfl | (simp only [numF, numV, hb]), rfl⟩
  | cons x r ih =>
    intro done j n h1 hj hn hr
    have hlen : rest.data.toList.length = done.length + (r.length + 1) := by rw [h1]; simp
    have c2 := valR x
    have c3 := mulR n 16 hn (by decide)
    have c4 := addR (n * 16 % 18446744073709551616) (valF x)
    have hv := val_le x
    rw [numF] at hr
    generalize valF x = v at *
    cases k1 : decide (v < 16) with
    | false =>
      have g1 : decide ((v : Int) ≥ ((16 : Nat) : Int)) = true := by rw [decide_eq_false_iff_not] at k1; rw [decide_eq_true_eq]; omega
      rw [k1] at hr
      refine wR (gI ?_)
      repeat' (first | ((first | refine C_r ?_ | refine O_r ?_); (conv => whnf); first | (refine ⟨fun hb => ?_, fun hb => ?_⟩ <;> try exact no_way) | refine B_o ?_ | refine fR ?_) | refine C_l (c2) ?_ | refine C_l (c3) ?_ | refine ext_l xt_ok c4 ?_ | refine Xs_l ?_ | fail)
      all_goals exact ⟨by rw [hr]; rfl, rfl⟩
    | true =>
      have g1 : decide ((v : Int) ≥ ((16 : Nat) : Int)) = false := by rw [decide_eq_true_eq] at k1; rw [decide_eq_false_iff_not]; omega
      have kv : v < 16 := by simpa using k1
      rw [k1] at hr
      cases k2 : decide (n * 16 + v < 18446744073709551616) with
      | true =>
        have kn : n * 16 + v < 18446744073709551616 := by simpa using k2
        have g2 : (!(((n * 16 / 18446744073709551616 : Nat) : Int) == 0)) = false := by
          rw [Nat.div_eq_of_lt (by omega)]; rfl
        have em : n * 16 % 18446744073709551616 = n * 16 := Nat.mod_eq_of_lt (by omega)
        rw [em] at c3 c4
        have g3 : (!(((((n * 16 : Nat) : Int) + v + 0) / 18446744073709551616) == 0)) = false := by
          rw [Int.ediv_eq_zero_of_lt (by omega) (by omega)]; rfl
        have e5 : ((((n * 16 : Nat) : Int) + v + 0) % 18446744073709551616) = ((n * 16 + v : Nat) : Int) := by
          rw [Int.emod_eq_of_lt (by omega) (by omega)]; omega
        rw [e5] at c4
        rw [k2] at hr
        refine wR (gI ?_)
        repeat' (first | ((first | refine C_r ?_ | refine O_r ?_); (conv => whnf); first | (refine ⟨fun hb => ?_, fun hb => ?_⟩ <;> try exact no_way) | refine B_o ?_ | refine R_o ?_) | refine C_l (c2) ?_ | refine C_l (c3) ?_ | refine ext_l xt_ok c4 ?_ | refine Xs_l ?_ | fail)
        refine rE (ih (done ++ [x]) _ (n * 16 + v) (by rw [h1]; simp) ?_ kn hr)
        rw [wrap_ok (by omega) (by omega)]; simp [hj]
      | false =>
        have kn : ¬ n * 16 + v < 18446744073709551616 := by simpa using k2
        rw [k2] at hr
        by_cases k3 : n * 16 < 18446744073709551616
        · have g2 : (!(((n * 16 / 18446744073709551616 : Nat) : Int) == 0)) = false := by
            rw [Nat.div_eq_of_lt (by omega)]; rfl
          have em : n * 16 % 18446744073709551616 = n * 16 := Nat.mod_eq_of_lt (by omega)
          rw [em] at c3 c4
          have g3 : (!(((((n * 16 : Nat) : Int) + v + 0) / 18446744073709551616) == 0)) = true := by
            rw [Bool.not_eq_true', beq_eq_false_iff_ne]; omega
          refine wR (gI ?_)
          repeat' (first | (refine C_r ?_; (conv => whnf); first | (refine ⟨fun hb => ?_, fun hb => ?_⟩ <;> try exact no_way)) | fail)
          all_goals exact ⟨by rw [hr]; rfl, rfl⟩
        · have g2 : (!(((n * 16 / 18446744073709551616 : Nat) : Int) == 0)) = true := by
            rw [Bool.not_eq_true', beq_eq_false_iff_ne]; omega
          refine wR (gI ?_)
          repeat' (first | ((first | refine C_r ?_ | refine O_r ?_); (conv => whnf); first | (refine ⟨fun hb => ?_, fun hb => ?_⟩ <;> try exact no_way) | refine B_o ?_ | refine fR ?_) | refine C_l (c2) ?_ | refine C_l (c3) ?_ | refine ext_l xt_ok c4 ?_ | refine Xs_l ?_ | fail)
          all_goals exact ⟨by rw [hr]; rfl, rfl⟩
theorem number10 [GVals] (s rest : ByteArray) (hz : rest.size < 2 ^ 31) (c1 : Comp Tryd.prog 87 [str s, str hexS] (.tup [.one (.d (.sc (.string rest))), .one (.d (.sc (.bool false)))])) : Comp Tryd.prog 77 [str s] (numV rest (numF 10 rest.data.toList 0)) := by
  generalize hfb : numV rest (numF 10 rest.data.toList 0) = fb
  have hsz : rest.size = rest.data.toList.length := rfl
  refine Spec.body (C := cx [] 57) fits (fn := Tryd.f77) Tryd.func77 rfl (by decide) (by decide) (gI ?_)
  repeat' (first | ((first | refine C_r ?_ | refine O_r ?_); (conv => whnf); first | (refine ⟨fun hb => ?_, fun hb => ?_⟩ <;> try exact no_way) | refine A_o ?_ | refine B_o ?_) | refine C_l (c1) ?_ | fail)
  refine wLoop [4, 5, 7, 21, 22] 0 (rest.data.toList.length + 1) ?_
  refine (fun key => key rest.data.toList [] _ 0 rfl rfl (by omega) hfb.symm :
    (∀ (r done : List UInt8) (j : Int) (n : Nat), rest.data.toList = done ++ r → j = done.length → n < 18446744073709551616 → fb = numV rest (numF 10 r n) →
    WR2 _ _ _ _ _ (r.length + 1) [(4, int .u64 ((10 : Nat) : Int)), (5, str rest), (7, int .u64 n), (21, int .i64 rest.size), (22, int .i64 j)] []) → _) ?_
  intro r
  induction r with
  | nil =>
    intro done j n h1 hj hn hr
    have hlen : rest.data.toList.length = done.length := by rw [h1]; simp
    refine wR (gI ?_)
    repeat' (first | ((first | refine C_r ?_ | refine O_r ?_); (conv => whnf); first | (refine ⟨fun hb => ?_, fun hb => ?_⟩ <;> try exact no_way) | refine A_o ?_ | refine fR ?_) | fail)
    all_goals exact ⟨by rw [hr]; first | rfl | (simp only [numF, numV, hb]), rfl⟩
  | cons x r ih =>
    intro done j n h1 hj hn hr
    have hlen : rest.data.toList.length = done.length + (r.length + 1) := by rw [h1]; simp
    have c2 := valR x
    have c3 := mulR n 10 hn (by decide)
    have c4 := addR (n * 10 % 18446744073709551616) (valF x)
    have hv := val_le x
    rw [numF] at hr
    generalize valF x = v at *
    cases k1 : decide (v < 10) with
    | false =>
      have g1 : decide ((v : Int) ≥ ((10 : Nat) : Int)) = true := by rw [decide_eq_false_iff_not] at k1; rw [decide_eq_true_eq]; omega
      rw [k1] at hr
      refine wR (gI ?_)
      repeat' (first | ((first | refine C_r ?_ | refine O_r ?_); (conv => whnf); first | (refine ⟨fun hb => ?_, fun hb => ?_⟩ <;> try exact no_way) | refine B_o ?_ | refine fR ?_) | refine C_l (c2) ?_ | refine C_l (c3) ?_ | refine ext_l xt_ok c4 ?_ | refine Xs_l ?_ | fail)
      all_goals exact ⟨by rw [hr]; rfl, rfl⟩
    | true =>
      have g1 : decide ((v : Int) ≥ ((10 : Nat) : Int)) = false := by rw [decide_eq_true_eq] at k1; rw [decide_eq_false_iff_not]; omega
      have kv : v < 10 := by simpa using k1
      rw [k1] at hr
      cases k2 : decide (n * 10 + v < 18446744073709551616) with
      | true =>
        have kn : n * 10 + v < 18446744073709551616 := by simpa using k2
        have g2 : (!(((n * 10 / 18446744073709551616 : Nat) : Int) == 0)) = false := by
          rw [Nat.div_eq_of_lt (by omega)]; rfl
        have em : n * 10 % 18446744073709551616 = n * 10 := Nat.mod_eq_of_lt (by omega)
        rw [em] at c3 c4
        have g3 : (!(((((n * 10 : Nat) : Int) + v + 0) / 18446744073709551616) == 0)) = false := by
          rw [Int.ediv_eq_zero_of_lt (by omega) (by omega)]; rfl
        have e5 : ((((n * 10 : Nat) : Int) + v + 0) % 18446744073709551616) = ((n * 10 + v : Nat) : Int) := by
          rw [Int.emod_eq_of_lt (by omega) (by omega)]; omega
        rw [e5] at c4
        rw [k2] at hr
        refine wR (gI ?_)
        repeat' (first | ((first | refine C_r ?_ | refine O_r ?_); (conv => whnf); first | (refine ⟨fun hb => ?_, fun hb => ?_⟩ <;> try exact no_way) | refine B_o ?_ | refine R_o ?_) | refine C_l (c2) ?_ | refine C_l (c3) ?_ | refine ext_l xt_ok c4 ?_ | refine Xs_l ?_ | fail)
        refine rE (ih (done ++ [x]) _ (n * 10 + v) (by rw [h1]; simp) ?_ kn hr)
        rw [wrap_ok (by omega) (by omega)]; simp [hj]
      | false =>
        have kn : ¬ n * 10 + v < 18446744073709551616 := by simpa using k2
        rw [k2] at hr
        by_cases k3 : n * 10 < 18446744073709551616
        · have g2 : (!(((n * 10 / 18446744073709551616 : Nat) : Int) == 0)) = false := by
            rw [Nat.div_eq_of_lt (by omega)]; rfl
          have em : n * 10 % 18446744073709551616 = n * 10 := Nat.mod_eq_of_lt (by omega)
          rw [em] at c3 c4
          have g3 : (!(((((n * 10 : Nat) : Int) + v + 0) / 18446744073709551616) == 0)) = true := by
            rw [Bool.not_eq_true', beq_eq_false_iff_ne]; omega
          refine wR (gI ?_)
          repeat' (first | ((first | refine C_r ?_ | refine O_r ?_); (conv => whnf); first | (refine ⟨fun hb => ?_, fun hb => ?_⟩ <;> try exact no_way) | refine B_o ?_ | refine fR ?_) | refine C_l (c2) ?_ | refine C_l (c3) ?_ | refine ext_l xt_ok c4 ?_ | refine Xs_l ?_ | fail)
          all_goals exact ⟨by rw [hr]; rfl, rfl⟩
        · have g2 : (!(((n * 10 / 18446744073709551616 : Nat) : Int) == 0)) = true := by
            rw [Bool.not_eq_true', beq_eq_false_iff_ne]; omega
          refine wR (gI ?_)
          repeat' (first | ((first | refine C_r ?_ | refine O_r ?_); (conv => whnf); first | (refine ⟨fun hb => ?_, fun hb => ?_⟩ <;> try exact no_way) | refine B_o ?_ | refine fR ?_) | refine C_l (c2) ?_ | refine C_l (c3) ?_ | refine ext_l xt_ok c4 ?_ | refine Xs_l ?_ | fail)
          all_goals exact ⟨by rw [hr]; rfl, rfl⟩
theorem numberR [GVals] (s : ByteArray) (hs : s.size < 2 ^ 31) : Comp Tryd.prog 77 [str s] (numV (cutF s hexS) (numF (baseF s) (cutF s hexS).data.toList 0)) := by
  have c1 := cutR s hexS
  have hsz : (cutF s hexS).size < 2 ^ 31 := by
    unfold cutF
    cases preF s hexS with
    | true => simp [ByteArray.size_extract]; omega
    | false => exact hs
  unfold baseF
  cases h : preF s hexS with
  | true => rw [h] at c1; exact number16 s _ hsz c1
  | false => rw [h] at c1; exact number10 s _ hsz c1
end Go.Proofs.YtcmhpjnafkpofaaDoor
