/- The reader of tokens: bytes, how many are so, going on, taking a token. -/
import Derived.Test.YtkjlmgfmedehiaaSp1
set_option linter.unusedVariables false
set_option linter.unusedSimpArgs false
namespace Go.Proofs.Ytkjlmgfmedehiaa
open Go Go.Am Go.Proofs
attribute [local irreducible] W WL DL WO RoundEnd
set_option maxRecDepth 10000
set_option maxHeartbeats 4000000
set_option linter.unusedVariables false
set_option linter.unusedSimpArgs false
def letterF (b : UInt8) : Bool := b.toNat == 95 || ((decide (b.toNat ≥ 97) && decide (b.toNat ≤ 122)) || (decide (b.toNat ≥ 65) && decide (b.toNat ≤ 90)))
def digitF (b : UInt8) : Bool := decide (b.toNat ≥ 48) && decide (b.toNat ≤ 57)
def innerF (b : UInt8) : Bool := letterF b || digitF b
theorem letterR [GVals] (b : UInt8) : Comp Try.prog 38 [int .u8 b.toNat] (bool (letterF b)) := by
  refine Spec.body (C := cx [] 21) fits (fn := Try.f38) Try.func38 rfl (by decide) (by decide) (gI ?_)
  repeat' (first | ((first | refine C_r ?_ | refine C0_r ?_ | refine O_r ?_ | refine R_r ?_); (conv => whnf); first | (refine ⟨fun hb => ?_, fun hb => ?_⟩ <;> try exact no_way) | refine A_o ?_ | refine B_o ?_ | refine C_o ?_ | refine R_o ?_ | refine fR ?_ | refine fRk ?_ | refine F_o ?_) | refine SA_l ?_ | refine V_l ?_ | refine L_l ?_ | refine Q_l ?_ | refine X_l ?_ | refine Xa_l ?_ | refine Xs_l ?_ | refine K_l ?_ | refine Ka_l ?_ | refine Lk_l ?_ | refine Up_l ?_ | refine Del_l ?_ | refine St_l ?_ | refine LU_l ?_ | refine Xw_l ?_ | refine Le_l ?_ | refine Se_l ?_ | refine M_l ?_ | refine A_l ?_ | refine A0_l ?_ | refine A1_l ?_ | refine Mk_l ?_ | refine Kz_l ?_ | refine W_l ?_ | fail)
  all_goals (refine ⟨?_, rfl⟩)
  all_goals (refine congrArg Am.bool ?_)
  all_goals (simp only [beq_iff_eq, beq_eq_false_iff_ne, decide_eq_true_eq, decide_eq_false_iff_not, ge_iff_le] at *)
  all_goals (simp [letterF]; omega)
theorem digitR [GVals] (b : UInt8) : Comp Try.prog 41 [int .u8 b.toNat] (bool (digitF b)) := by
  refine Spec.body (C := cx [] 9) fits (fn := Try.f41) Try.func41 rfl (by decide) (by decide) (gI ?_)
  repeat' (first | ((first | refine C_r ?_ | refine C0_r ?_ | refine O_r ?_ | refine R_r ?_); (conv => whnf); first | (refine ⟨fun hb => ?_, fun hb => ?_⟩ <;> try exact no_way) | refine A_o ?_ | refine B_o ?_ | refine C_o ?_ | refine R_o ?_ | refine fR ?_ | refine fRk ?_ | refine F_o ?_) | refine SA_l ?_ | refine V_l ?_ | refine L_l ?_ | refine Q_l ?_ | refine X_l ?_ | refine Xa_l ?_ | refine Xs_l ?_ | refine K_l ?_ | refine Ka_l ?_ | refine Lk_l ?_ | refine Up_l ?_ | refine Del_l ?_ | refine St_l ?_ | refine LU_l ?_ | refine Xw_l ?_ | refine Le_l ?_ | refine Se_l ?_ | refine M_l ?_ | refine A_l ?_ | refine A0_l ?_ | refine A1_l ?_ | refine Mk_l ?_ | refine Kz_l ?_ | refine W_l ?_ | fail)
  all_goals (refine ⟨?_, rfl⟩)
  all_goals (refine congrArg Am.bool ?_)
  all_goals (simp only [beq_iff_eq, beq_eq_false_iff_ne, decide_eq_true_eq, decide_eq_false_iff_not, ge_iff_le] at *)
  all_goals (simp [digitF]; omega)
theorem innerR [GVals] (b : UInt8) : Comp Try.prog 39 [int .u8 b.toNat] (bool (innerF b)) := by
  have c1 := letterR b
  have c2 := digitR b
  refine Spec.body (C := cx [] 9) fits (fn := Try.f39) Try.func39 rfl (by decide) (by decide) (gI ?_)
  repeat' (first | ((first | refine C_r ?_ | refine C0_r ?_ | refine O_r ?_ | refine R_r ?_); (conv => whnf); first | (refine ⟨fun hb => ?_, fun hb => ?_⟩ <;> try exact no_way) | refine A_o ?_ | refine B_o ?_ | refine C_o ?_ | refine R_o ?_ | refine fR ?_ | refine fRk ?_ | refine F_o ?_) | refine B_l (c1) (fun h1 => ?_) fun h1 => ?_ | refine B_l (c2) (fun h2 => ?_) fun h2 => ?_ | refine SA_l ?_ | refine V_l ?_ | refine L_l ?_ | refine Q_l ?_ | refine X_l ?_ | refine Xa_l ?_ | refine Xs_l ?_ | refine K_l ?_ | refine Ka_l ?_ | refine Lk_l ?_ | refine Up_l ?_ | refine Del_l ?_ | refine St_l ?_ | refine LU_l ?_ | refine Xw_l ?_ | refine Le_l ?_ | refine Se_l ?_ | refine M_l ?_ | refine A_l ?_ | refine A0_l ?_ | refine A1_l ?_ | refine Mk_l ?_ | refine Kz_l ?_ | refine W_l ?_ | fail)
  · exact ⟨by simp only [innerF, h1]; rfl, rfl⟩
  · exact ⟨by simp only [innerF, h1, h2]; rfl, rfl⟩
  · exact ⟨by simp only [innerF, h1, h2]; rfl, rfl⟩
/-- how many bytes are so, from the first on -/
def runF (p : UInt8 → Bool) : List UInt8 → Int → Int
  | [], n => n
  | x :: r, n => if p x then runF p r (n + 1) else n
theorem runR [GVals] (g : FuncId) (p : UInt8 → Bool) (hg : ∀ b : UInt8, Comp Try.prog g [int .u8 b.toNat] (bool (p b))) (s : ByteArray) (hs : s.size < 2 ^ 60) : Comp Try.prog 33 [str s, .one (.fn (.func g) [] [])] (int .i64 (runF p s.data.toList 0)) := by
  generalize hfb : runF p s.data.toList 0 = fb
  refine Spec.body (C := cx [] 20) fits (fn := Try.f33) Try.func33 rfl (by decide) (by decide) (gI ?_)
  repeat' (first | ((first | refine C_r ?_ | refine C0_r ?_ | refine O_r ?_ | refine R_r ?_); (conv => whnf); first | (refine ⟨fun hb => ?_, fun hb => ?_⟩ <;> try exact no_way) | refine A_o ?_ | refine B_o ?_ | refine C_o ?_ | refine R_o ?_ | refine fR ?_ | refine fRk ?_ | refine F_o ?_) | refine SA_l ?_ | refine V_l ?_ | refine L_l ?_ | refine Q_l ?_ | refine X_l ?_ | refine Xa_l ?_ | refine Xs_l ?_ | refine K_l ?_ | refine Ka_l ?_ | refine Lk_l ?_ | refine Up_l ?_ | refine Del_l ?_ | refine St_l ?_ | refine LU_l ?_ | refine Xw_l ?_ | refine Le_l ?_ | refine Se_l ?_ | refine M_l ?_ | refine A_l ?_ | refine A0_l ?_ | refine A1_l ?_ | refine Mk_l ?_ | refine Kz_l ?_ | refine W_l ?_ | fail)
  refine wLoop [0, 1, 5] 0 (s.data.toList.length + 1) ?_
  refine (fun key => key s.data.toList [] _ rfl rfl hfb.symm :
    (∀ (rest done : List UInt8) (j : Int), s.data.toList = done ++ rest → j = done.length → fb = runF p rest j →
    WR2 _ _ _ _ _ (rest.length + 1) [(0, str s), (1, .one (.fn (.func g) [] [])), (5, int .i64 j)] []) → _) ?_
  have hsz : s.size = s.data.toList.length := rfl
  intro rest
  induction rest with
  | nil =>
    intro done j h1 hj hr
    have hlen : s.data.toList.length = done.length := by rw [h1]; simp
    refine wR (gI ?_)
    repeat' (first | ((first | refine C_r ?_ | refine C0_r ?_ | refine O_r ?_ | refine R_r ?_); (conv => whnf); first | (refine ⟨fun hb => ?_, fun hb => ?_⟩ <;> try exact no_way) | refine A_o ?_ | refine B_o ?_ | refine C_o ?_ | refine R_o ?_ | refine fR ?_ | refine fRk ?_ | refine F_o ?_) | refine SA_l ?_ | refine V_l ?_ | refine L_l ?_ | refine Q_l ?_ | refine X_l ?_ | refine Xa_l ?_ | refine Xs_l ?_ | refine K_l ?_ | refine Ka_l ?_ | refine Lk_l ?_ | refine Up_l ?_ | refine Del_l ?_ | refine St_l ?_ | refine LU_l ?_ | refine Xw_l ?_ | refine Le_l ?_ | refine Se_l ?_ | refine M_l ?_ | refine A_l ?_ | refine A0_l ?_ | refine A1_l ?_ | refine Mk_l ?_ | refine Kz_l ?_ | refine W_l ?_ | fail)
    exact ⟨by rw [hr]; rfl, rfl⟩
  | cons x rest ih =>
    intro done j h1 hj hr
    have hlen : s.data.toList.length = done.length + (rest.length + 1) := by rw [h1]; simp
    have c1 := hg x
    refine wR (gI ?_)
    repeat' (first | ((first | refine C_r ?_ | refine C0_r ?_ | refine O_r ?_ | refine R_r ?_); (conv => whnf); first | (refine ⟨fun hb => ?_, fun hb => ?_⟩ <;> try exact no_way) | refine A_o ?_ | refine B_o ?_ | refine C_o ?_ | refine R_o ?_ | refine fR ?_ | refine fRk ?_ | refine F_o ?_) | refine B_l (c1) (fun h2 => ?_) fun h2 => ?_ | refine SA_l ?_ | refine V_l ?_ | refine L_l ?_ | refine Q_l ?_ | refine X_l ?_ | refine Xa_l ?_ | refine Xs_l ?_ | refine K_l ?_ | refine Ka_l ?_ | refine Lk_l ?_ | refine Up_l ?_ | refine Del_l ?_ | refine St_l ?_ | refine LU_l ?_ | refine Xw_l ?_ | refine Le_l ?_ | refine Se_l ?_ | refine M_l ?_ | refine A_l ?_ | refine A0_l ?_ | refine A1_l ?_ | refine Mk_l ?_ | refine Kz_l ?_ | refine W_l ?_ | fail)
    · refine rE (ih (done ++ [x]) _ (by rw [h1]; simp) ?_ ?_)
      · rw [wrap_ok (by omega) (by omega)]; simp [hj]
      · rw [hr, wrap_ok (by omega) (by omega)]; simp only [runF, h2]; rfl
    · exact ⟨by rw [hr]; simp only [runF, h2]; rfl, rfl⟩
/-- a token -/
structure Tok where
  kind : Int
  text : ByteArray
  file : Int
  at_ : Nat × Nat
def Tok.row (x : Tok) : List D := [.sc (.int .i64 x.kind), .sc (.string x.text), .sc (.int .i64 x.file), .sc (.complex .f64 (F x.at_.1) (F x.at_.2))]
/-- the reader: its text, file, spot, and tokens -/
def rdS (s : ByteArray) (file : Int) (p : Nat × Nat) (l : List Tok) : St := [.var [.d (.sc (.string s)), .d (.sc (.int .i64 file)), .d (.sc (.complex .f64 (F p.1) (F p.2))), .arr 1 0 (l.map Tok.row).length], .arr 0 false 4 (l.map Tok.row)]
def rdP : V := .one (.ptr 0 0)
theorem passR [GVals] (s : ByteArray) (file : Int) (p : Nat × Nat) (l : List Tok) (n : Int) (hs : s.size < 2 ^ 49) (hp : p.1 < 2 ^ 50 ∧ p.2 < 2 ^ 50) (h0 : 0 ≤ n) (h1 : n ≤ s.size) : Am.Spec Try.prog 23 [rdP, int .i64 n] (rdS s file p l) (fun v σ => v = .tup [] ∧ σ = rdS (s.extract n.toNat s.size) file (walkF p (s.extract 0 n.toNat).data.toList) l) := by
  have hsz : (s.extract 0 n.toNat).size < 2 ^ 50 := by simp [ByteArray.size_extract]; omega
  have c1 := behindR p (s.extract 0 n.toNat) hp hsz
  unfold spotV at c1
  unfold rdP rdS
  refine Spec.body (C := cx [] 27) fits (fn := Try.f23) Try.func23 rfl (by decide) (by decide) (gI ?_)
  repeat' (first | ((first | refine C_r ?_ | refine C0_r ?_ | refine O_r ?_ | refine R_r ?_); (conv => whnf); first | (refine ⟨fun hb => ?_, fun hb => ?_⟩ <;> try exact no_way) | refine A_o ?_ | refine B_o ?_ | refine C_o ?_ | refine R_o ?_ | refine fR ?_ | refine fRk ?_ | refine F_o ?_) | refine C_l (c1) ?_ | refine SA_l ?_ | refine V_l ?_ | refine L_l ?_ | refine Q_l ?_ | refine X_l ?_ | refine Xa_l ?_ | refine Xs_l ?_ | refine K_l ?_ | refine Ka_l ?_ | refine Lk_l ?_ | refine Up_l ?_ | refine Del_l ?_ | refine St_l ?_ | refine LU_l ?_ | refine Xw_l ?_ | refine Le_l ?_ | refine Se_l ?_ | refine M_l ?_ | refine A_l ?_ | refine A0_l ?_ | refine A1_l ?_ | refine Mk_l ?_ | refine Kz_l ?_ | refine W_l ?_ | refine C_d (c1) ?_ | refine SA_d ?_ | refine V_d ?_ | refine L_d ?_ | refine Q_d ?_ | refine X_d ?_ | refine Xs_d ?_ | refine K_d ?_ | refine Ka_d ?_ | refine Lk_d ?_ | refine Up_d ?_ | refine A_d ?_ | refine A0_d ?_ | refine St_d ?_ | refine LU_d ?_ | refine Xw_d ?_ | refine Le_d ?_ | refine Se_d ?_ | refine M_d ?_ | refine N_d ?_ | refine Kz_d ?_ | refine W_d ?_ | fail)
  all_goals exact ⟨rfl, rfl⟩
theorem takeR [GVals] (s : ByteArray) (file : Int) (p : Nat × Nat) (l : List Tok) (kind n : Int) (t : ByteArray) (hs : s.size < 2 ^ 49) (hp : p.1 < 2 ^ 50 ∧ p.2 < 2 ^ 50) (hl : l.length < 2 ^ 40) (h0 : 0 ≤ n) (h1 : n ≤ s.size) : Am.Spec Try.prog 40 [rdP, int .i64 kind, int .i64 n, str t] (rdS s file p l) (fun v σ => v = .tup [] ∧ σ = rdS (s.extract n.toNat s.size) file (walkF p (s.extract 0 n.toNat).data.toList) (l ++ [⟨kind, t, file, p⟩])) := by
  have c1 := passR s file p (l ++ [⟨kind, t, file, p⟩]) n hs hp h0 h1
  have g1 : List.map Tok.row (l ++ [⟨kind, t, file, p⟩]) = l.map Tok.row ++ [[D.sc (.int .i64 kind), D.sc (.string t), D.sc (.int .i64 file), D.sc (.complex .f64 (F p.1) (F p.2))]] := by rw [List.map_append]; rfl
  unfold rdP rdS at *
  rw [g1] at c1 ⊢
  refine Spec.body (C := cx [] 31) fits (fn := Try.f40) Try.func40 rfl (by decide) (by decide) (gI ?_)
  repeat' (first | ((first | refine C_r ?_ | refine C0_r ?_ | refine O_r ?_ | refine R_r ?_); (conv => whnf); first | (refine ⟨fun hb => ?_, fun hb => ?_⟩ <;> try exact no_way) | refine A_o ?_ | refine B_o ?_ | refine C_o ?_ | refine R_o ?_ | refine fR ?_ | refine fRk ?_ | refine F_o ?_) | refine fun k => WL.crpU [0, 1] [.var [.d (.sc (.string s)), .d (.sc (.int .i64 file)), .d (.sc (.complex .f64 (F p.1) (F p.2))), .arr 1 0 (l.map Tok.row ++ [[D.sc (.int .i64 kind), D.sc (.string t), D.sc (.int .i64 file), D.sc (.complex .f64 (F p.1) (F p.2))]]).length], .arr 0 false 4 (l.map Tok.row ++ [[D.sc (.int .i64 kind), D.sc (.string t), D.sc (.int .i64 file), D.sc (.complex .f64 (F p.1) (F p.2))]])] _ _ c1 (oW ?_ _) | refine SA_l ?_ | refine V_l ?_ | refine L_l ?_ | refine Q_l ?_ | refine X_l ?_ | refine Xa_l ?_ | refine Xs_l ?_ | refine K_l ?_ | refine Ka_l ?_ | refine Lk_l ?_ | refine Up_l ?_ | refine Del_l ?_ | refine St_l ?_ | refine LU_l ?_ | refine Xw_l ?_ | refine Le_l ?_ | refine Se_l ?_ | refine M_l ?_ | refine A_l ?_ | refine A0_l ?_ | refine A1_l ?_ | refine Mk_l ?_ | refine Kz_l ?_ | refine W_l ?_ | refine SA_d ?_ | refine V_d ?_ | refine L_d ?_ | refine Q_d ?_ | refine X_d ?_ | refine Xs_d ?_ | refine K_d ?_ | refine Ka_d ?_ | refine Lk_d ?_ | refine Up_d ?_ | refine A_d ?_ | refine A0_d ?_ | refine St_d ?_ | refine LU_d ?_ | refine Xw_d ?_ | refine Le_d ?_ | refine Se_d ?_ | refine M_d ?_ | refine N_d ?_ | refine Kz_d ?_ | refine W_d ?_ | fail)
  all_goals exact ⟨rfl, rfl⟩
end Go.Proofs.Ytkjlmgfmedehiaa
