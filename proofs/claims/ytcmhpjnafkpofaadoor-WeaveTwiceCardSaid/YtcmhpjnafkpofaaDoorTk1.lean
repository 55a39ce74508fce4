/- The reader of tokens: bytes, how many are so, going on, taking a token. -/
import Derived.Test.YtcmhpjnafkpofaaDoorSp1
set_option linter.unusedVariables false
set_option linter.unusedSimpArgs false
namespace Go.Proofs.YtcmhpjnafkpofaaDoor
open Go Go.Am Go.Proofs
attribute [local irreducible] W WL DL WO RoundEnd
set_option maxRecDepth 10000
set_option maxHeartbeats 4000000
set_option linter.unusedVariables false
set_option linter.unusedSimpArgs false
def letterF (b : UInt8) : Bool := b.toNat == 95 || ((decide (b.toNat ≥ 97) && decide (b.toNat ≤ 122)) || (decide (b.toNat ≥ 65) && decide (b.toNat ≤ 90)))
def digitF (b : UInt8) : Bool := decide (b.toNat ≥ 48) && decide (b.toNat ≤ 57)
def innerF (b : UInt8) : Bool := letterF b || digitF b
theorem letterR [GVals] (b : UInt8) : Comp Tryd.prog 73 [int .u8 b.toNat] (bool (letterF b)) := by
  refine Spec.body (C := cx [] 21) fits (fn := Tryd.f73) Tryd.func73 rfl (by decide) (by decide) (gI ?_)
  repeat' (first | ((first | refine C_r ?_ | refine O_r ?_); (conv => whnf); first | (refine ⟨fun hb => ?_, fun hb => ?_⟩ <;> try exact no_way) | refine fR ?_) | fail)
  all_goals (refine ⟨?_, rfl⟩)
  all_goals (refine congrArg Am.bool ?_)
  all_goals (simp only [beq_iff_eq, beq_eq_false_iff_ne, decide_eq_true_eq, decide_eq_false_iff_not, ge_iff_le] at *)
  all_goals (simp [letterF]; omega)
theorem digitR [GVals] (b : UInt8) : Comp Tryd.prog 76 [int .u8 b.toNat] (bool (digitF b)) := by
  refine Spec.body (C := cx [] 9) fits (fn := Tryd.f76) Tryd.func76 rfl (by decide) (by decide) (gI ?_)
  repeat' (first | ((first | refine C_r ?_ | refine O_r ?_); (conv => whnf); first | (refine ⟨fun hb => ?_, fun hb => ?_⟩ <;> try exact no_way) | refine fR ?_) | fail)
  all_goals (refine ⟨?_, rfl⟩)
  all_goals (refine congrArg Am.bool ?_)
  all_goals (simp only [beq_iff_eq, beq_eq_false_iff_ne, decide_eq_true_eq, decide_eq_false_iff_not, ge_iff_le] at *)
  all_goals (simp [digitF]; omega)
theorem innerR [GVals] (b : UInt8) : Comp Tryd.prog 74 [int .u8 b.toNat] (bool (innerF b)) := by
  have c1 := letterR b
  have c2 := digitR b
  refine Spec.body (C := cx [] 9) fits (fn := Tryd.f74) Tryd.func74 rfl (by decide) (by decide) (gI ?_)
  repeat' (first | ((first | refine C_r ?_ | refine O_r ?_); (conv => whnf); first | refine B_o ?_ | refine fR ?_) | refine B_l (c1) (fun h1 => ?_) fun h1 => ?_ | refine B_l (c2) (fun h2 => ?_) fun h2 => ?_ | fail)
  · exact ⟨by simp only [innerF, h1]; rfl, rfl⟩
  · exact ⟨by simp only [innerF, h1, h2]; rfl, rfl⟩
  · exact ⟨by simp only [innerF, h1, h2]; rfl, rfl⟩
/-- how many bytes are so, from the first on -/
def runF (p : UInt8 → Bool) : List UInt8 → Int → Int
  | [], n => n
  | x :: r, n => if p x then runF p r (n + 1) else n
theorem runR [GVals] (g : FuncId) (p : UInt8 → Bool) (hg : ∀ b : UInt8, Comp Tryd.prog g [int .u8 b.toNat] (bool (p b))) (s : ByteArray) (hs : s.size < 2 ^ 60) : Comp Tryd.prog 69 [str s, .one (.fn (.func g) [] [])] (int .i64 (runF p s.data.toList 0)) := by
  generalize hfb : runF p s.data.toList 0 = fb
  refine Spec.body (C := cx [] 20) fits (fn := Tryd.f69) Tryd.func69 rfl (by decide) (by decide) (gI ?_)
  repeat' (first | (refine C_r ?_; (conv => whnf); first | refine A_o ?_) | fail)
  refine wLoop [0, 1, 5] 0 (s.data.toList.length + 1) ?_
  refine (fun key => key s.data.toList [] _ rfl rfl hfb.symm :
    (∀ (rest done : List UInt8) (j : Int), s.data.toList = done ++ rest → j = done.length → fb = runF p rest j →
    WR2 _ _ _ _ _ (rest.length + 1) [(0, str s), (1, .one (.fn (.func g) [] [])), (5, int .i64 j)] []) → _) ?_
  have hsz : s.size = s.data.toList.length := rfl
  intro rest
  induction rest with
  | nil =>
    intro done j h1 hj hr
    have hlen : s.data.toList.length = done.length := by rw [h1]; simp
    refine wR (gI ?_)
    repeat' (first | ((first | refine C_r ?_ | refine O_r ?_); (conv => whnf); first | (refine ⟨fun hb => ?_, fun hb => ?_⟩ <;> try exact no_way) | refine A_o ?_ | refine fR ?_) | fail)
    exact ⟨by rw [hr]; rfl, rfl⟩
  | cons x rest ih =>
    intro done j h1 hj hr
    have hlen : s.data.toList.length = done.length + (rest.length + 1) := by rw [h1]; simp
    have c1 := hg x
    refine wR (gI ?_)
    repeat' (first | ((first | refine C_r ?_ | refine O_r ?_); (conv => whnf); first | (refine ⟨fun hb => ?_, fun hb => ?_⟩ <;> try exact no_way) | refine A_o ?_ | refine B_o ?_ | refine R_o ?_ | refine fR ?_) | refine B_l (c1) (fun h2 => ?_) fun h2 => ?_ | refine Xs_l ?_ | fail)
    · refine rE (ih (done ++ [x]) _ (by rw [h1]; simp) ?_ ?_)
      · rw [wrap_ok (by omega) (by omega)]; simp [hj]
      · rw [hr, wrap_ok (by omega) (by omega)]; simp only [runF, h2]; rfl
    · exact ⟨by rw [hr]; simp only [runF, h2]; rfl, rfl⟩
/-- a token -/
structure Tok where
  kind : Int
  text : ByteArray
  file : Int
  at_ : Nat × Nat
def Tok.row (x : Tok) : List D := [.sc (.int .i64 x.kind), .sc (.string x.text), .sc (.int .i64 x.file), .sc (.complex .f64 (F x.at_.1) (F x.at_.2))]
/-- the reader: its text, file, spot, and tokens -/
def rdS (s : ByteArray) (file : Int) (p : Nat × Nat) (l : List Tok) : St := [.var [.d (.sc (.string s)), .d (.sc (.int .i64 file)), .d (.sc (.complex .f64 (F p.1) (F p.2))), .arr 1 0 (l.map Tok.row).length], .arr 0 false 4 (l.map Tok.row)]
def rdP : V := .one (.ptr 0 0)
theorem passR [GVals] (s : ByteArray) (file : Int) (p : Nat × Nat) (l : List Tok) (n : Int) (hs : s.size < 2 ^ 49) (hp : p.1 < 2 ^ 50 ∧ p.2 < 2 ^ 50) (h0 : 0 ≤ n) (h1 : n ≤ s.size) : Am.Spec Tryd.prog 59 [rdP, int .i64 n] (rdS s file p l) (fun v σ => v = .tup [] ∧ σ = rdS (s.extract n.toNat s.size) file (walkF p (s.extract 0 n.toNat).data.toList) l) := by
  have hsz : (s.extract 0 n.toNat).size < 2 ^ 50 := by simp [ByteArray.size_extract]; omega
  have c1 := behindR p (s.extract 0 n.toNat) hp hsz
  unfold spotV at c1
  unfold rdP rdS
  refine Spec.body (C := cx [] 27) fits (fn := Tryd.f59) Tryd.func59 rfl (by decide) (by decide) (gI ?_)
  repeat' (first | ((first | refine C_r ?_ | refine O_r ?_ | refine R_r ?_); (conv => whnf); first | refine B_o ?_ | refine C_o ?_ | refine fR ?_) | refine Kz_l ?_ | refine C_d (c1) ?_ | refine Kz_d ?_ | fail)
  all_goals exact ⟨rfl, rfl⟩
theorem takeR [GVals] (s : ByteArray) (file : Int) (p : Nat × Nat) (l : List Tok) (kind n : Int) (t : ByteArray) (hs : s.size < 2 ^ 49) (hp : p.1 < 2 ^ 50 ∧ p.2 < 2 ^ 50) (hl : l.length < 2 ^ 40) (h0 : 0 ≤ n) (h1 : n ≤ s.size) : Am.Spec Tryd.prog 75 [rdP, int .i64 kind, int .i64 n, str t] (rdS s file p l) (fun v σ => v = .tup [] ∧ σ = rdS (s.extract n.toNat s.size) file (walkF p (s.extract 0 n.toNat).data.toList) (l ++ [⟨kind, t, file, p⟩])) := by
  have c1 := passR s file p (l ++ [⟨kind, t, file, p⟩]) n hs hp h0 h1
  have g1 : List.map Tok.row (l ++ [⟨kind, t, file, p⟩]) = l.map Tok.row ++ [[D.sc (.int .i64 kind), D.sc (.string t), D.sc (.int .i64 file), D.sc (.complex .f64 (F p.1) (F p.2))]] := by rw [List.map_append]; rfl
  unfold rdP rdS at *
  rw [g1] at c1 ⊢
  refine Spec.body (C := cx [] 31) fits (fn := Tryd.f75) Tryd.func75 rfl (by decide) (by decide) (gI ?_)
  repeat' (first | ((first | refine C_r ?_ | refine O_r ?_ | refine R_r ?_); (conv => whnf); first | refine B_o ?_ | refine C_o ?_ | refine fR ?_) | refine fun k => WL.crpU [0, 1] [.var [.d (.sc (.string s)), .d (.sc (.int .i64 file)), .d (.sc (.complex .f64 (F p.1) (F p.2))), .arr 1 0 (l.map Tok.row ++ [[D.sc (.int .i64 kind), D.sc (.string t), D.sc (.int .i64 file), D.sc (.complex .f64 (F p.1) (F p.2))]]).length], .arr 0 false 4 (l.map Tok.row ++ [[D.sc (.int .i64 kind), D.sc (.string t), D.sc (.int .i64 file), D.sc (.complex .f64 (F p.1) (F p.2))]])] _ _ c1 (oW ?_ _) | refine A_d ?_ | fail)
  all_goals exact ⟨rfl, rfl⟩
end Go.Proofs.YtcmhpjnafkpofaaDoor
