/- The reader of tokens: what tells nothing, strings, what begins with #, signs. -/
import Derived.Test.YtcmhpjnafkpofaaDoorTk1
import Derived.Test.YtcmhpjnafkpofaaDoorIxs
set_option linter.unusedVariables false
set_option linter.unusedSimpArgs false
namespace Go.Proofs.YtcmhpjnafkpofaaDoor
open Go Go.Am Go.Proofs
attribute [local irreducible] W WL DL WO RoundEnd
set_option maxRecDepth 10000
set_option maxHeartbeats 4000000
set_option linter.unusedVariables false
set_option linter.unusedSimpArgs false
def preF (s t : ByteArray) : Bool := decide ((s.size : Int) ≥ (t.size : Int)) && (s.extract 0 t.size == t)
theorem hasPreL [GVals] (s t : ByteArray) : Comp Tryd.prog 41 [str s, str t] (bool (preF s t)) := by
  unfold preF
  cases h1 : decide ((s.size : Int) ≥ (t.size : Int)) with
  | true =>
    have h2 : t.size ≤ s.size := by rw [decide_eq_true_eq] at h1; omega
    refine Spec.body (C := cx [] 18) fits (fn := Tryd.f41) Tryd.func41 rfl (by decide) (by decide) (gI ?_)
    repeat' (first | ((first | refine C_r ?_ | refine O_r ?_); (conv => whnf); first | (refine ⟨fun hb => ?_, fun hb => ?_⟩ <;> try exact no_way) | refine B_o ?_ | refine fR ?_) | refine Kz_l ?_ | fail)
    all_goals first | exact ⟨rfl, rfl⟩ | exact ⟨by rw [show (s.extract 0 t.size == t) = _ from hb]; rfl, rfl⟩
  | false =>
    refine Spec.body (C := cx [] 18) fits (fn := Tryd.f41) Tryd.func41 rfl (by decide) (by decide) (gI ?_)
    repeat' (first | ((first | refine C_r ?_ | refine O_r ?_); (conv => whnf); first | (refine ⟨fun hb => ?_, fun hb => ?_⟩ <;> try exact no_way) | refine fR ?_) | fail)
    all_goals exact ⟨rfl, rfl⟩
theorem hasPreR [GVals] (s t : ByteArray) : Comp Tryd.prog 29 [str s, str t] (bool (preF s t)) := by
  have c1 := hasPreL s t
  refine Spec.body (C := cx [] 8) fits (fn := Tryd.f29) Tryd.func29 rfl (by decide) (by decide) (gI ?_)
  repeat' (first | ((first | refine C_r ?_ | refine O_r ?_); (conv => whnf); first | refine B_o ?_ | refine fR ?_) | refine C_l (c1) ?_ | fail)
  all_goals exact ⟨rfl, rfl⟩
def notNl (b : UInt8) : Bool := !(b.toNat == 10)
def whiteF (b : UInt8) : Bool := b.toNat == 32 || (b.toNat == 9 || (b.toNat == 10 || b.toNat == 13))
def notQ (b : UInt8) : Bool := !(b.toNat == 34) && !(b.toNat == 10)
theorem notNlR [GVals] (b : UInt8) : Comp Tryd.prog 70 [int .u8 b.toNat] (bool (notNl b)) := by
  refine Spec.body (C := cx [] 5) fits (fn := Tryd.f70) Tryd.func70 rfl (by decide) (by decide) (gI ?_)
  repeat' (first | ((first | refine C_r ?_ | refine O_r ?_); (conv => whnf); first | (refine ⟨fun hb => ?_, fun hb => ?_⟩ <;> try exact no_way) | refine fR ?_) | fail)
  all_goals (refine ⟨?_, rfl⟩)
  all_goals (refine congrArg Am.bool ?_)
  all_goals (simp only [beq_iff_eq, beq_eq_false_iff_ne, decide_eq_true_eq, decide_eq_false_iff_not, ge_iff_le, Bool.not_eq_true', Bool.not_eq_false'] at *)
  all_goals (simp [notNl]; omega)
theorem whiteR [GVals] (b : UInt8) : Comp Tryd.prog 71 [int .u8 b.toNat] (bool (whiteF b)) := by
  refine Spec.body (C := cx [] 17) fits (fn := Tryd.f71) Tryd.func71 rfl (by decide) (by decide) (gI ?_)
  repeat' (first | ((first | refine C_r ?_ | refine O_r ?_); (conv => whnf); first | (refine ⟨fun hb => ?_, fun hb => ?_⟩ <;> try exact no_way) | refine fR ?_) | fail)
  all_goals (refine ⟨?_, rfl⟩)
  all_goals (refine congrArg Am.bool ?_)
  all_goals (simp only [beq_iff_eq, beq_eq_false_iff_ne, decide_eq_true_eq, decide_eq_false_iff_not, ge_iff_le, Bool.not_eq_true', Bool.not_eq_false'] at *)
  all_goals (simp [whiteF]; omega)
theorem notQR [GVals] (b : UInt8) : Comp Tryd.prog 91 [int .u8 b.toNat] (bool (notQ b)) := by
  refine Spec.body (C := cx [] 9) fits (fn := Tryd.f91) Tryd.func91 rfl (by decide) (by decide) (gI ?_)
  repeat' (first | ((first | refine C_r ?_ | refine O_r ?_); (conv => whnf); first | (refine ⟨fun hb => ?_, fun hb => ?_⟩ <;> try exact no_way) | refine fR ?_) | fail)
  all_goals (refine ⟨?_, rfl⟩)
  all_goals (refine congrArg Am.bool ?_)
  all_goals (simp only [beq_iff_eq, beq_eq_false_iff_ne, decide_eq_true_eq, decide_eq_false_iff_not, ge_iff_le, Bool.not_eq_true', Bool.not_eq_false'] at *)
  all_goals (simp [notQ]; omega)
theorem run_bound (p : UInt8 → Bool) : ∀ (l : List UInt8) (n : Int), n ≤ runF p l n ∧ runF p l n ≤ n + l.length
  | [], n => by simp [runF]
  | x :: r, n => by
    rw [runF, List.length_cons]
    split
    · have := run_bound p r (n + 1); omega
    · omega
theorem run_size (p : UInt8 → Bool) (s : ByteArray) : 0 ≤ runF p s.data.toList 0 ∧ runF p s.data.toList 0 ≤ s.size := by
  have h := run_bound p s.data.toList 0
  have e : s.size = s.data.toList.length := rfl
  omega
def twoS : ByteArray := ⟨#[47, 47]⟩
def openS : ByteArray := ⟨#[47, 42]⟩
def shutS : ByteArray := ⟨#[42, 47]⟩
/-- how much of a text tells nothing; false: it does not end -/
def blankF (s : ByteArray) : Int × Bool :=
  bif preF s twoS then (runF notNl s.data.toList 0, true) else
  bif preF s openS then (Lib.index (s.extract 2 s.size).data.toList shutS.data.toList + 2 + 2, decide (Lib.index (s.extract 2 s.size).data.toList shutS.data.toList ≥ 0)) else
  (runF whiteF s.data.toList 0, true)
theorem pre_size {s t : ByteArray} (h : preF s t = true) : t.size ≤ s.size := by
  unfold preF at h
  rw [Bool.and_eq_true, decide_eq_true_eq] at h
  omega
theorem index_bound (l t : List UInt8) : -1 ≤ Lib.index l t ∧ Lib.index l t ≤ l.length := by
  induction l with
  | nil => rw [Lib.index]; split <;> simp
  | cons b r ih =>
    rw [Lib.index, List.length_cons]
    split
    · omega
    · split
      · omega
      · rename_i h1 h2
        simp only [beq_iff_eq] at h2
        omega
theorem blankR [GVals] (s : ByteArray) (file : Int) (p : Nat × Nat) (l : List Tok) (hs : s.size < 2 ^ 31) : Am.Spec Tryd.prog 58 [rdP] (rdS s file p l) (fun v σ => v = .tup [.one (.d (.sc (.int .i64 (blankF s).1))), .one (.d (.sc (.bool (blankF s).2)))] ∧ σ = rdS s file p l) := by
  have c1 := hasPreR s twoS
  have c2 := hasPreR s openS
  have c3 := runR 70 notNl notNlR s (by omega)
  have c4 := runR 71 whiteF whiteR s (by omega)
  have hx : (s.extract 2 s.size).size < 4294967281 := by simp [ByteArray.size_extract]; omega
  have c5 := indexR (s.extract 2 s.size) shutS hx
  unfold blankF
  unfold rdP rdS
  cases h1 : preF s twoS with
  | true =>
    rw [h1] at c1
    refine Spec.body (C := cx [] 38) fits (fn := Tryd.f58) Tryd.func58 rfl (by decide) (by decide) (gI ?_)
    repeat' (first | ((first | refine C_r ?_ | refine O_r ?_); (conv => whnf); first | refine B_o ?_ | refine fR ?_) | refine C_l (c1) ?_ | refine C_l (c3) ?_ | fail)
    all_goals exact ⟨rfl, rfl⟩
  | false =>
    rw [h1] at c1
    cases h2 : preF s openS with
    | true =>
      rw [h2] at c2
      have h3 : 2 ≤ s.size := pre_size h2
      have hbd := index_bound (s.extract 2 s.size).data.toList shutS.data.toList
      have hl : (s.extract 2 s.size).data.toList.length = (s.extract 2 s.size).size := rfl
      generalize Lib.index (s.extract 2 s.size).data.toList shutS.data.toList = n at *
      have e1 : IntKind.i64.wrap (n + 2) = n + 2 := wrap_okz (by omega) (by omega)
      have e2 : IntKind.i64.wrap (n + 2 + 2) = n + 2 + 2 := wrap_okz (by omega) (by omega)
      refine Spec.body (C := cx [] 38) fits (fn := Tryd.f58) Tryd.func58 rfl (by decide) (by decide) (gI ?_)
      repeat' (first | ((first | refine C_r ?_ | refine O_r ?_); (conv => whnf); first | (refine ⟨fun hb => ?_, fun hb => ?_⟩ <;> try exact no_way) | refine B_o ?_ | refine fR ?_) | refine C_l (c1) ?_ | refine C_l (c2) ?_ | refine C_l (c5) ?_ | refine Kz_l ?_ | fail)
      all_goals exact ⟨by rw [e1, e2, hb]; rfl, rfl⟩
    | false =>
      rw [h2] at c2
      refine Spec.body (C := cx [] 38) fits (fn := Tryd.f58) Tryd.func58 rfl (by decide) (by decide) (gI ?_)
      repeat' (first | ((first | refine C_r ?_ | refine O_r ?_); (conv => whnf); first | refine B_o ?_ | refine fR ?_) | refine C_l (c1) ?_ | refine C_l (c2) ?_ | refine C_l (c4) ?_ | fail)
      all_goals exact ⟨rfl, rfl⟩
theorem ext_list (s : ByteArray) (n : Nat) : (s.extract n s.size).data.toList = s.data.toList.drop n := by
  rw [extract_list, List.take_of_length_le (by show s.data.toList.length ≤ _; exact Nat.le_refl _)]
/-- a string: how many bytes are within it, if it ends -/
def txN (s : ByteArray) : Int := runF notQ (s.extract 1 s.size).data.toList 0
def textG (s : ByteArray) (n : Int) : Option (Int × Int × ByteArray) :=
  match s.data.toList[(n + 1).toNat]? with
  | some b => bif b.toNat == 34 then some (4, n + 2, s.extract 1 (n + 1).toNat) else none
  | none => none
def textF (s : ByteArray) : Option (Int × Int × ByteArray) := textG s (txN s)
/-- what the reader becomes -/
def outS (s : ByteArray) (file : Int) (p : Nat × Nat) (l : List Tok) : Option (Int × Int × ByteArray) → V × St
  | some (kind, n, t) => (bool true, rdS (s.extract n.toNat s.size) file (walkF p (s.extract 0 n.toNat).data.toList) (l ++ [⟨kind, t, file, p⟩]))
  | none => (bool false, rdS s file p l)
theorem txN_bound (s : ByteArray) (h : 1 ≤ s.size) : 0 ≤ txN s ∧ txN s + 1 ≤ s.size := by
  have h1 := run_size notQ (s.extract 1 s.size)
  have h2 : (s.extract 1 s.size).size = s.size - 1 := by simp [ByteArray.size_extract]
  unfold txN
  omega
theorem textR [GVals] (s : ByteArray) (file : Int) (p : Nat × Nat) (l : List Tok) (hs : s.size < 2 ^ 31) (h1 : 1 ≤ s.size) (hp : p.1 < 2 ^ 50 ∧ p.2 < 2 ^ 50) (hl : l.length < 2 ^ 40) : Am.Spec Tryd.prog 78 [rdP] (rdS s file p l) (fun v σ => v = (outS s file p l (textF s)).1 ∧ σ = (outS s file p l (textF s)).2) := by
  have c1 := runR 91 notQ notQR (s.extract 1 s.size) (by simp [ByteArray.size_extract]; omega)
  have hn := txN_bound s h1
  have hsz : s.size = s.data.toList.length := rfl
  have e1 : IntKind.i64.wrap (txN s + 1) = txN s + 1 := wrap_okz (by omega) (by omega)
  have e2 : IntKind.i64.wrap (txN s + 2) = txN s + 2 := wrap_okz (by omega) (by omega)
  unfold textF
  have c1 : Comp Tryd.prog 69 [str (s.extract 1 s.size), .one (.fn (.func 91) [] [])] (int .i64 (txN s)) := c1
  generalize txN s = n at *
  cases hx : s.data.toList[(n + 1).toNat]? with
  | none =>
    have h2 : (IntKind.i64.wrap (n + 1) == (s.size : Int)) = true := by
      rw [e1, beq_iff_eq]
      rw [List.getElem?_eq_none_iff] at hx
      omega
    have hE : textG s n = none := by unfold textG; rw [hx]
    rw [hE]
    unfold outS rdP rdS
    refine Spec.body (C := cx [] 39) fits (fn := Tryd.f78) Tryd.func78 rfl (by decide) (by decide) (gI ?_)
    repeat' (first | ((first | refine C_r ?_ | refine O_r ?_); (conv => whnf); first | (refine ⟨fun hb => ?_, fun hb => ?_⟩ <;> try exact no_way) | refine B_o ?_ | refine fR ?_) | refine C_l (c1) ?_ | refine Kz_l ?_ | fail)
    all_goals exact ⟨rfl, rfl⟩
  | some b =>
    have hlt := (List.getElem?_eq_some_iff.1 hx).1
    have h2 : (IntKind.i64.wrap (n + 1) == (s.size : Int)) = false := by
      rw [e1, beq_eq_false_iff_ne]; omega
    have h3 : s.data.toList[(IntKind.i64.wrap (n + 1)).toNat]? = some b := by rw [e1]; exact hx
    cases hq : (b.toNat == 34) with
    | false =>
      have h4 : (!((b.toNat : Int) == 34)) = true := by
        simp only [beq_eq_false_iff_ne, Bool.not_eq_true', ne_eq] at hq ⊢; omega
      have hE : textG s n = none := by unfold textG; rw [hx]; simp only [hq]; rfl
      rw [hE]
      unfold outS rdP rdS
      refine Spec.body (C := cx [] 39) fits (fn := Tryd.f78) Tryd.func78 rfl (by decide) (by decide) (gI ?_)
      repeat' (first | ((first | refine C_r ?_ | refine O_r ?_); (conv => whnf); first | (refine ⟨fun hb => ?_, fun hb => ?_⟩ <;> try exact no_way) | refine B_o ?_ | refine fR ?_) | refine C_l (c1) ?_ | refine Xs_l ?_ | refine Kz_l ?_ | fail)
      all_goals exact ⟨rfl, rfl⟩
    | true =>
      have h4 : (!((b.toNat : Int) == 34)) = false := by
        simp only [beq_iff_eq, Bool.not_eq_false'] at hq ⊢; omega
      have hE : textG s n = some (4, n + 2, s.extract 1 (n + 1).toNat) := by unfold textG; rw [hx]; simp only [hq]; rfl
      rw [hE]
      have c2 : Am.Spec Tryd.prog 75 [rdP, int .i64 4, int .i64 (IntKind.i64.wrap (n + 2)), str (s.extract 1 (IntKind.i64.wrap (n + 1)).toNat)] (rdS s file p l) (fun v σ => v = .tup [] ∧ σ = (outS s file p l (some (4, n + 2, s.extract 1 (n + 1).toNat))).2) := by
        rw [e1, e2]; exact takeR s file p l 4 (n + 2) (s.extract 1 (n + 1).toNat) (by omega) hp hl (by omega) (by omega)
      simp only [outS] at c2 ⊢
      unfold rdP rdS at *
      refine Spec.body (C := cx [] 39) fits (fn := Tryd.f78) Tryd.func78 rfl (by decide) (by decide) (gI ?_)
      repeat' (first | ((first | refine C_r ?_ | refine O_r ?_); (conv => whnf); first | (refine ⟨fun hb => ?_, fun hb => ?_⟩ <;> try exact no_way) | refine B_o ?_ | refine fR ?_) | refine C_l (c1) ?_ | refine fun k => WL.crpU [0, 1] [.var [.d (.sc (.string s)), .d (.sc (.int .i64 file)), .d (.sc (.complex .f64 (F p.1) (F p.2))), .arr 1 0 (l.map Tok.row).length], .arr 0 false 4 (l.map Tok.row)] _ _ c2 (oW ?_ _) | refine Xs_l ?_ | refine Kz_l ?_ | fail)
      all_goals exact ⟨rfl, rfl⟩
/-- what begins with #: how long it is -/
def hsN (s : ByteArray) : Int := 1 + runF innerF (s.extract 1 s.size).data.toList 0
def inclS : ByteArray := ⟨#[35, 105, 110, 99, 108, 117, 100, 101]⟩
def defnS : ByteArray := ⟨#[35, 100, 101, 102, 105, 110, 101]⟩
def hashF (s : ByteArray) : Option (Int × Int × ByteArray) :=
  bif (s.extract 0 (hsN s).toNat == inclS) || (s.extract 0 (hsN s).toNat == defnS) then some (5, hsN s, s.extract 0 (hsN s).toNat) else none
theorem hashR [GVals] (s : ByteArray) (file : Int) (p : Nat × Nat) (l : List Tok) (hs : s.size < 2 ^ 31) (h1 : 1 ≤ s.size) (hp : p.1 < 2 ^ 50 ∧ p.2 < 2 ^ 50) (hl : l.length < 2 ^ 40) : Am.Spec Tryd.prog 79 [rdP] (rdS s file p l) (fun v σ => v = (outS s file p l (hashF s)).1 ∧ σ = (outS s file p l (hashF s)).2) := by
  have c1 := runR 74 innerF innerR (s.extract 1 s.size) (by simp [ByteArray.size_extract]; omega)
  have hn : 1 ≤ hsN s ∧ hsN s ≤ s.size := by
    have h1 := run_size innerF (s.extract 1 s.size)
    have h2 : (s.extract 1 s.size).size = s.size - 1 := by simp [ByteArray.size_extract]
    unfold hsN
    omega
  have e1 : IntKind.i64.wrap (1 + runF innerF (s.extract 1 s.size).data.toList 0) = hsN s := wrap_okz (by unfold hsN at hn; omega) (by unfold hsN at hn; omega)
  unfold hashF
  generalize hr : runF innerF (s.extract 1 s.size).data.toList 0 = r at *
  generalize hsN s = n at *
  have c2 : Am.Spec Tryd.prog 75 [rdP, int .i64 5, int .i64 (IntKind.i64.wrap (1 + r)), str (s.extract 0 (IntKind.i64.wrap (1 + r)).toNat)] (rdS s file p l) (fun v σ => v = .tup [] ∧ σ = (outS s file p l (some (5, n, s.extract 0 n.toNat))).2) := by
    rw [e1]; exact takeR s file p l 5 n (s.extract 0 n.toNat) (by omega) hp hl (by omega) (by omega)
  cases k1 : (s.extract 0 n.toNat == inclS) with
  | true =>
    have k1' : (!(s.extract 0 (IntKind.i64.wrap (1 + r)).toNat == inclS)) = false := by rw [e1, k1]; rfl
    simp only [outS, cond_true, Bool.true_or] at c2 ⊢
    unfold rdP rdS at *
    refine Spec.body (C := cx [] 33) fits (fn := Tryd.f79) Tryd.func79 rfl (by decide) (by decide) (gI ?_)
    repeat' (first | ((first | refine C_r ?_ | refine O_r ?_); (conv => whnf); first | (refine ⟨fun hb => ?_, fun hb => ?_⟩ <;> try exact no_way) | refine B_o ?_ | refine fR ?_) | refine C_l (c1) ?_ | refine fun k => WL.crpU [0, 1] [.var [.d (.sc (.string s)), .d (.sc (.int .i64 file)), .d (.sc (.complex .f64 (F p.1) (F p.2))), .arr 1 0 (l.map Tok.row).length], .arr 0 false 4 (l.map Tok.row)] _ _ c2 (oW ?_ _) | refine Kz_l ?_ | fail)
    all_goals exact ⟨rfl, rfl⟩
  | false =>
    have k1' : (!(s.extract 0 (IntKind.i64.wrap (1 + r)).toNat == inclS)) = true := by rw [e1, k1]; rfl
    cases k2 : (s.extract 0 n.toNat == defnS) with
    | true =>
      have k2' : (!(s.extract 0 (IntKind.i64.wrap (1 + r)).toNat == defnS)) = false := by rw [e1, k2]; rfl
      simp only [outS, cond_true, Bool.false_or] at c2 ⊢
      unfold rdP rdS at *
      refine Spec.body (C := cx [] 33) fits (fn := Tryd.f79) Tryd.func79 rfl (by decide) (by decide) (gI ?_)
      repeat' (first | ((first | refine C_r ?_ | refine O_r ?_); (conv => whnf); first | (refine ⟨fun hb => ?_, fun hb => ?_⟩ <;> try exact no_way) | refine B_o ?_ | refine fR ?_) | refine C_l (c1) ?_ | refine fun k => WL.crpU [0, 1] [.var [.d (.sc (.string s)), .d (.sc (.int .i64 file)), .d (.sc (.complex .f64 (F p.1) (F p.2))), .arr 1 0 (l.map Tok.row).length], .arr 0 false 4 (l.map Tok.row)] _ _ c2 (oW ?_ _) | refine Kz_l ?_ | fail)
      all_goals exact ⟨rfl, rfl⟩
    | false =>
      have k2' : (!(s.extract 0 (IntKind.i64.wrap (1 + r)).toNat == defnS)) = true := by rw [e1, k2]; rfl
      simp only [outS, cond_false, Bool.false_or]
      unfold rdP rdS
      refine Spec.body (C := cx [] 33) fits (fn := Tryd.f79) Tryd.func79 rfl (by decide) (by decide) (gI ?_)
      repeat' (first | ((first | refine C_r ?_ | refine O_r ?_); (conv => whnf); first | (refine ⟨fun hb => ?_, fun hb => ?_⟩ <;> try exact no_way) | refine B_o ?_ | refine fR ?_) | refine C_l (c1) ?_ | refine Kz_l ?_ | fail)
      all_goals exact ⟨rfl, rfl⟩
end Go.Proofs.YtcmhpjnafkpofaaDoor
