/- What halves mean, by the document. -/
import Derived.Test.YtcplpllbinilmaaEmA
import Derived.Test.YtcplpllbinilmaaRspA
set_option linter.unusedVariables false
set_option linter.unusedSimpArgs false
namespace Go.Proofs.Ytcplpllbinilmaa
open Go Go.Am Go.Proofs
attribute [local irreducible] W WL DL WO RoundEnd
set_option maxRecDepth 10000
set_option maxHeartbeats 4000000
set_option linter.unusedVariables false
set_option linter.unusedSimpArgs false
def argsV (d : Dat) : V := .agg [.d (.sc (.int .u64 d.a0)), .d (.sc (.int .u64 d.a1)), .d (.sc (.int .u64 d.a2)), .d (.sc (.int .u64 d.a3)), .d (.sc (.int .u64 d.a4)), .d (.sc (.int .u64 d.a5))]
theorem cmpR (op a b : Int) (h : 1 ≤ op ∧ op ≤ 6) : Comp Try.prog 77 [int .i64 op, int .u64 a, int .u64 b] (bool (cmpF op a b)) := by
  have hop : op = 1 ∨ op = 2 ∨ op = 3 ∨ op = 4 ∨ op = 5 ∨ op = 6 := by omega
  rcases hop with rfl | rfl | rfl | rfl | rfl | rfl
  all_goals (
    refine Spec.body (C := cx [] 38) fits (fn := Try.f77) Try.func77 rfl (by decide) (by decide) (gI ?_)
    repeat' (first | ((first | refine C_r ?_ | refine C0_r ?_ | refine O_r ?_ | refine R_r ?_); (conv => whnf); first | (refine ⟨fun hb => ?_, fun hb => ?_⟩ <;> try exact no_way) | refine A_o ?_ | refine B_o ?_ | refine C_o ?_ | refine R_o ?_ | refine fR ?_ | refine fRk ?_ | refine F_o ?_) | refine SA_l ?_ | refine V_l ?_ | refine L_l ?_ | refine Q_l ?_ | refine X_l ?_ | refine Xa_l ?_ | refine Xs_l ?_ | refine K_l ?_ | refine Ka_l ?_ | refine Lk_l ?_ | refine Up_l ?_ | refine Del_l ?_ | refine St_l ?_ | refine LU_l ?_ | refine Xw_l ?_ | refine Le_l ?_ | refine Se_l ?_ | refine M_l ?_ | refine A_l ?_ | refine A0_l ?_ | refine A1_l ?_ | refine Mk_l ?_ | refine Kz_l ?_ | refine W_l ?_ | refine SA_d ?_ | refine V_d ?_ | refine L_d ?_ | refine Q_d ?_ | refine X_d ?_ | refine Xs_d ?_ | refine K_d ?_ | refine Ka_d ?_ | refine Lk_d ?_ | refine Up_d ?_ | refine A_d ?_ | refine A0_d ?_ | refine St_d ?_ | refine LU_d ?_ | refine Xw_d ?_ | refine Le_d ?_ | refine Se_d ?_ | refine M_d ?_ | refine Mk_d ?_ | refine N_d ?_ | refine Kz_d ?_ | refine W_d ?_ | fail)
    all_goals (refine ⟨?_, rfl⟩; rw [← hb]; rfl))
theorem refHalfR (h : Half) : Comp Try.prog 76 [.agg (h.row.map .d)] (bool (halfOk h)) := by
  unfold halfOk mayF
  refine Spec.body (C := cx [] 21) fits (fn := Try.f76) Try.func76 rfl (by decide) (by decide) (gI ?_)
  repeat' (first | ((first | refine C_r ?_ | refine C0_r ?_ | refine O_r ?_ | refine R_r ?_); (conv => whnf); first | (refine ⟨fun hb => ?_, fun hb => ?_⟩ <;> try exact no_way) | refine A_o ?_ | refine B_o ?_ | refine C_o ?_ | refine R_o ?_ | refine fR ?_ | refine fRk ?_ | refine F_o ?_) | refine SA_l ?_ | refine V_l ?_ | refine L_l ?_ | refine Q_l ?_ | refine X_l ?_ | refine Xa_l ?_ | refine Xs_l ?_ | refine K_l ?_ | refine Ka_l ?_ | refine Lk_l ?_ | refine Up_l ?_ | refine Del_l ?_ | refine St_l ?_ | refine LU_l ?_ | refine Xw_l ?_ | refine Le_l ?_ | refine Se_l ?_ | refine M_l ?_ | refine A_l ?_ | refine A0_l ?_ | refine A1_l ?_ | refine Mk_l ?_ | refine Kz_l ?_ | refine W_l ?_ | refine SA_d ?_ | refine V_d ?_ | refine L_d ?_ | refine Q_d ?_ | refine X_d ?_ | refine Xs_d ?_ | refine K_d ?_ | refine Ka_d ?_ | refine Lk_d ?_ | refine Up_d ?_ | refine A_d ?_ | refine A0_d ?_ | refine St_d ?_ | refine LU_d ?_ | refine Xw_d ?_ | refine Le_d ?_ | refine Se_d ?_ | refine M_d ?_ | refine Mk_d ?_ | refine N_d ?_ | refine Kz_d ?_ | refine W_d ?_ | fail)
  all_goals (refine ⟨?_, rfl⟩; simp only [*, Bool.true_and, Bool.false_and]; first | rfl | trace_state)
theorem get_lo (bs : List UInt8) (p : Nat) (a : Int) (ha : 0 ≤ a ∧ a < 2 ^ 64) (h0 : bs[p]? = some (u8 (a / 2 ^ (8 * 0)))) (h1 : bs[p + 1]? = some (u8 (a / 2 ^ (8 * 1)))) (h2 : bs[p + 2]? = some (u8 (a / 2 ^ (8 * 2)))) (h3 : bs[p + 3]? = some (u8 (a / 2 ^ (8 * 3)))) :
    getF bs p 4 0 = a % 2 ^ 32 := by
  show (((0 * 256 + (((bs[p + 3]?).getD 0).toNat : Int)) * 256 + (((bs[p + 2]?).getD 0).toNat : Int)) * 256 + (((bs[p + 1]?).getD 0).toNat : Int)) * 256 + (((bs[p + 0]?).getD 0).toNat : Int) = _
  rw [show bs[p + 0]? = bs[p]? from rfl, h0, h1, h2, h3]
  simp only [Option.getD_some]
  rw [u8_toNat, u8_toNat, u8_toNat, u8_toNat]
  omega
theorem get_hi (bs : List UInt8) (p : Nat) (a : Int) (ha : 0 ≤ a ∧ a < 2 ^ 64) (h0 : bs[p]? = some (u8 (a / 2 ^ (8 * 4)))) (h1 : bs[p + 1]? = some (u8 (a / 2 ^ (8 * 5)))) (h2 : bs[p + 2]? = some (u8 (a / 2 ^ (8 * 6)))) (h3 : bs[p + 3]? = some (u8 (a / 2 ^ (8 * 7)))) :
    getF bs p 4 0 = a / 2 ^ 32 := by
  show (((0 * 256 + (((bs[p + 3]?).getD 0).toNat : Int)) * 256 + (((bs[p + 2]?).getD 0).toNat : Int)) * 256 + (((bs[p + 1]?).getD 0).toNat : Int)) * 256 + (((bs[p + 0]?).getD 0).toNat : Int) = _
  rw [show bs[p + 0]? = bs[p]? from rfl, h0, h1, h2, h3]
  simp only [Option.getD_some]
  rw [u8_toNat, u8_toNat, u8_toNat, u8_toNat]
  omega
def Dat.arg (d : Dat) (k : Int) : Int := bif k == 0 then d.a0 else bif k == 1 then d.a1 else bif k == 2 then d.a2 else bif k == 3 then d.a3 else bif k == 4 then d.a4 else d.a5
theorem half_word (d : Dat) (hd : d.ok) (h : Half) (hf : h.fit) : halfW d h = bif h.high then d.arg h.arg / 2 ^ 32 else d.arg h.arg % 2 ^ 32 := by
  obtain ⟨_, _, _, g0, g1, g2, g3, g4, g5⟩ := hd
  obtain ⟨ha, _⟩ := hf
  obtain ⟨k, op, hi, m, v⟩ := h
  simp only at ha ⊢
  have hop : k = 0 ∨ k = 1 ∨ k = 2 ∨ k = 3 ∨ k = 4 ∨ k = 5 := by omega
  cases hi with
  | false =>
    rcases hop with rfl | rfl | rfl | rfl | rfl | rfl
    · show IntKind.wrap .u32 (getF d.bytes 16 4 0) = d.a0 % 2 ^ 32
      rw [get_lo d.bytes 16 d.a0 g0 rfl rfl rfl rfl, wrap_u32 (by omega) (by omega)]
    · show IntKind.wrap .u32 (getF d.bytes 24 4 0) = d.a1 % 2 ^ 32
      rw [get_lo d.bytes 24 d.a1 g1 rfl rfl rfl rfl, wrap_u32 (by omega) (by omega)]
    · show IntKind.wrap .u32 (getF d.bytes 32 4 0) = d.a2 % 2 ^ 32
      rw [get_lo d.bytes 32 d.a2 g2 rfl rfl rfl rfl, wrap_u32 (by omega) (by omega)]
    · show IntKind.wrap .u32 (getF d.bytes 40 4 0) = d.a3 % 2 ^ 32
      rw [get_lo d.bytes 40 d.a3 g3 rfl rfl rfl rfl, wrap_u32 (by omega) (by omega)]
    · show IntKind.wrap .u32 (getF d.bytes 48 4 0) = d.a4 % 2 ^ 32
      rw [get_lo d.bytes 48 d.a4 g4 rfl rfl rfl rfl, wrap_u32 (by omega) (by omega)]
    · show IntKind.wrap .u32 (getF d.bytes 56 4 0) = d.a5 % 2 ^ 32
      rw [get_lo d.bytes 56 d.a5 g5 rfl rfl rfl rfl, wrap_u32 (by omega) (by omega)]
  | true =>
    rcases hop with rfl | rfl | rfl | rfl | rfl | rfl
    · show IntKind.wrap .u32 (getF d.bytes 20 4 0) = d.a0 / 2 ^ 32
      rw [get_hi d.bytes 20 d.a0 g0 rfl rfl rfl rfl, wrap_u32 (by omega) (by omega)]
    · show IntKind.wrap .u32 (getF d.bytes 28 4 0) = d.a1 / 2 ^ 32
      rw [get_hi d.bytes 28 d.a1 g1 rfl rfl rfl rfl, wrap_u32 (by omega) (by omega)]
    · show IntKind.wrap .u32 (getF d.bytes 36 4 0) = d.a2 / 2 ^ 32
      rw [get_hi d.bytes 36 d.a2 g2 rfl rfl rfl rfl, wrap_u32 (by omega) (by omega)]
    · show IntKind.wrap .u32 (getF d.bytes 44 4 0) = d.a3 / 2 ^ 32
      rw [get_hi d.bytes 44 d.a3 g3 rfl rfl rfl rfl, wrap_u32 (by omega) (by omega)]
    · show IntKind.wrap .u32 (getF d.bytes 52 4 0) = d.a4 / 2 ^ 32
      rw [get_hi d.bytes 52 d.a4 g4 rfl rfl rfl rfl, wrap_u32 (by omega) (by omega)]
    · show IntKind.wrap .u32 (getF d.bytes 60 4 0) = d.a5 / 2 ^ 32
      rw [get_hi d.bytes 60 d.a5 g5 rfl rfl rfl rfl, wrap_u32 (by omega) (by omega)]
theorem and_low (a : Int) (h : 0 ≤ a ∧ a < 2 ^ 64) : IntKind.u32.wrap (IntKind.u64.wrap ↑(BitVec.ofInt IntKind.u64.bits a &&& BitVec.ofInt IntKind.u64.bits 4294967295).toNat) = a % 2 ^ 32 := by
  obtain ⟨n, rfl⟩ := Int.eq_ofNat_of_zero_le h.1
  have h1 : (BitVec.ofInt 64 (n : Int) &&& BitVec.ofInt 64 4294967295).toNat = n % 2 ^ 32 := by
    rw [BitVec.toNat_and, BitVec.toNat_ofInt, BitVec.toNat_ofInt]
    have e1 : ((n : Int) % ((2 ^ 64 : Nat) : Int)).toNat = n := by
      rw [Int.emod_eq_of_lt (by omega) (by omega)]; rfl
    have e2 : ((4294967295 : Int) % ((2 ^ 64 : Nat) : Int)).toNat = 2 ^ 32 - 1 := rfl
    rw [e1, e2, Nat.and_two_pow_sub_one_eq_mod]
  show IntKind.u32.wrap (IntKind.u64.wrap ((BitVec.ofInt 64 (n : Int) &&& BitVec.ofInt 64 4294967295).toNat : Int)) = _
  rw [h1, wrap_u64 (by omega) (by omega), wrap_u32 (by omega) (by omega)]
  omega
theorem sh_hi (a : Int) (h : 0 ≤ a ∧ a < 2 ^ 64) : IntKind.u32.wrap (a.fdiv (2 ^ min (Int.toNat 32) IntKind.u64.bits)) = a / 2 ^ 32 := by
  show IntKind.u32.wrap (a.fdiv (2 ^ 32)) = _
  rw [Int.fdiv_eq_ediv_of_nonneg _ (by decide), wrap_u32 (by omega) (by omega)]
theorem holdsR (d : Dat) (hd : d.ok) (h : Half) (hf : h.fit) : Comp Try.prog 69 [.agg (h.row.map .d), argsV d] (bool (holdsW d h)) := by
  have c1 := refHalfR h
  have c2 : ∀ A, A = halfW d h → Comp Try.prog 77 [int .i64 h.op, int .u64 (IntKind.u64.wrap (IntKind.u32.wrap ↑(BitVec.ofInt IntKind.u32.bits A &&& BitVec.ofInt IntKind.u32.bits h.mask).toNat)), int .u64 (IntKind.u64.wrap h.value)] (bool (holdsW d h)) := by
    rintro A rfl
    have c := cmpR h.op (andF (halfW d h) h.mask) h.value hf.2.1
    have hA := w32_ok ((BitVec.ofInt IntKind.u32.bits (halfW d h) &&& BitVec.ofInt IntKind.u32.bits h.mask).toNat : Int)
    have hv := hf.2.2.2
    rw [wrap_u64 hA.1 (by have := hA.2; omega), wrap_u64 hv.1 (by have := hv.2; omega)]
    exact c
  have ho : halfOk h = true := by
    obtain ⟨⟨a1, a2⟩, ⟨a3, a4⟩, _⟩ := hf
    unfold halfOk mayF
    rw [decide_eq_true a1, decide_eq_true a2, decide_eq_true a3, decide_eq_true a4]; rfl
  rw [ho] at c1
  have hw := half_word d hd h hf
  generalize holdsW d h = b at *
  obtain ⟨_, _, _, g0, g1, g2, g3, g4, g5⟩ := hd
  obtain ⟨ha, _⟩ := hf
  obtain ⟨k, op, hi, m, v⟩ := h
  simp only at ha c2
  have hop : k = 0 ∨ k = 1 ∨ k = 2 ∨ k = 3 ∨ k = 4 ∨ k = 5 := by omega
  clear ha ho
  cases hi with
  | false =>
    simp only [cond_false] at hw
    rcases hop with rfl | rfl | rfl | rfl | rfl | rfl
    · have c2 := c2 _ (show _ = halfW d _ from ((and_low d.a0 g0).trans hw.symm))
      clear hw g0 g1 g2 g3 g4 g5
      refine Spec.body (C := cx [] 34) fits (fn := Try.f69) Try.func69 rfl (by decide) (by decide) (gI ?_)
      repeat' (first | ((first | refine C_r ?_ | refine C0_r ?_ | refine O_r ?_ | refine R_r ?_); (conv => whnf); first | (refine ⟨fun hb => ?_, fun hb => ?_⟩ <;> try exact no_way) | refine A_o ?_ | refine B_o ?_ | refine C_o ?_ | refine R_o ?_ | refine fR ?_ | refine fRk ?_ | refine F_o ?_) | refine C_l (c1) ?_ | refine C_l (c2) ?_ | refine SA_l ?_ | refine V_l ?_ | refine L_l ?_ | refine Q_l ?_ | refine X_l ?_ | refine Xa_l ?_ | refine Xs_l ?_ | refine K_l ?_ | refine Ka_l ?_ | refine Lk_l ?_ | refine Up_l ?_ | refine Del_l ?_ | refine St_l ?_ | refine LU_l ?_ | refine Xw_l ?_ | refine Le_l ?_ | refine Se_l ?_ | refine M_l ?_ | refine A_l ?_ | refine A0_l ?_ | refine A1_l ?_ | refine Mk_l ?_ | refine Kz_l ?_ | refine W_l ?_ | refine C_d (c1) ?_ | refine C_d (c2) ?_ | refine SA_d ?_ | refine V_d ?_ | refine L_d ?_ | refine Q_d ?_ | refine X_d ?_ | refine Xs_d ?_ | refine K_d ?_ | refine Ka_d ?_ | refine Lk_d ?_ | refine Up_d ?_ | refine A_d ?_ | refine A0_d ?_ | refine St_d ?_ | refine LU_d ?_ | refine Xw_d ?_ | refine Le_d ?_ | refine Se_d ?_ | refine M_d ?_ | refine Mk_d ?_ | refine N_d ?_ | refine Kz_d ?_ | refine W_d ?_ | fail)
      all_goals first | exact ⟨rfl, rfl⟩ | trace_state
    · have c2 := c2 _ (show _ = halfW d _ from ((and_low d.a1 g1).trans hw.symm))
      clear hw g0 g1 g2 g3 g4 g5
      refine Spec.body (C := cx [] 34) fits (fn := Try.f69) Try.func69 rfl (by decide) (by decide) (gI ?_)
      repeat' (first | ((first | refine C_r ?_ | refine C0_r ?_ | refine O_r ?_ | refine R_r ?_); (conv => whnf); first | (refine ⟨fun hb => ?_, fun hb => ?_⟩ <;> try exact no_way) | refine A_o ?_ | refine B_o ?_ | refine C_o ?_ | refine R_o ?_ | refine fR ?_ | refine fRk ?_ | refine F_o ?_) | refine C_l (c1) ?_ | refine C_l (c2) ?_ | refine SA_l ?_ | refine V_l ?_ | refine L_l ?_ | refine Q_l ?_ | refine X_l ?_ | refine Xa_l ?_ | refine Xs_l ?_ | refine K_l ?_ | refine Ka_l ?_ | refine Lk_l ?_ | refine Up_l ?_ | refine Del_l ?_ | refine St_l ?_ | refine LU_l ?_ | refine Xw_l ?_ | refine Le_l ?_ | refine Se_l ?_ | refine M_l ?_ | refine A_l ?_ | refine A0_l ?_ | refine A1_l ?_ | refine Mk_l ?_ | refine Kz_l ?_ | refine W_l ?_ | refine C_d (c1) ?_ | refine C_d (c2) ?_ | refine SA_d ?_ | refine V_d ?_ | refine L_d ?_ | refine Q_d ?_ | refine X_d ?_ | refine Xs_d ?_ | refine K_d ?_ | refine Ka_d ?_ | refine Lk_d ?_ | refine Up_d ?_ | refine A_d ?_ | refine A0_d ?_ | refine St_d ?_ | refine LU_d ?_ | refine Xw_d ?_ | refine Le_d ?_ | refine Se_d ?_ | refine M_d ?_ | refine Mk_d ?_ | refine N_d ?_ | refine Kz_d ?_ | refine W_d ?_ | fail)
      all_goals first | exact ⟨rfl, rfl⟩ | trace_state
    · have c2 := c2 _ (show _ = halfW d _ from ((and_low d.a2 g2).trans hw.symm))
      clear hw g0 g1 g2 g3 g4 g5
      refine Spec.body (C := cx [] 34) fits (fn := Try.f69) Try.func69 rfl (by decide) (by decide) (gI ?_)
      repeat' (first | ((first | refine C_r ?_ | refine C0_r ?_ | refine O_r ?_ | refine R_r ?_); (conv => whnf); first | (refine ⟨fun hb => ?_, fun hb => ?_⟩ <;> try exact no_way) | refine A_o ?_ | refine B_o ?_ | refine C_o ?_ | refine R_o ?_ | refine fR ?_ | refine fRk ?_ | refine F_o ?_) | refine C_l (c1) ?_ | refine C_l (c2) ?_ | refine SA_l ?_ | refine V_l ?_ | refine L_l ?_ | refine Q_l ?_ | refine X_l ?_ | refine Xa_l ?_ | refine Xs_l ?_ | refine K_l ?_ | refine Ka_l ?_ | refine Lk_l ?_ | refine Up_l ?_ | refine Del_l ?_ | refine St_l ?_ | refine LU_l ?_ | refine Xw_l ?_ | refine Le_l ?_ | refine Se_l ?_ | refine M_l ?_ | refine A_l ?_ | refine A0_l ?_ | refine A1_l ?_ | refine Mk_l ?_ | refine Kz_l ?_ | refine W_l ?_ | refine C_d (c1) ?_ | refine C_d (c2) ?_ | refine SA_d ?_ | refine V_d ?_ | refine L_d ?_ | refine Q_d ?_ | refine X_d ?_ | refine Xs_d ?_ | refine K_d ?_ | refine Ka_d ?_ | refine Lk_d ?_ | refine Up_d ?_ | refine A_d ?_ | refine A0_d ?_ | refine St_d ?_ | refine LU_d ?_ | refine Xw_d ?_ | refine Le_d ?_ | refine Se_d ?_ | refine M_d ?_ | refine Mk_d ?_ | refine N_d ?_ | refine Kz_d ?_ | refine W_d ?_ | fail)
      all_goals first | exact ⟨rfl, rfl⟩ | trace_state
    · have c2 := c2 _ (show _ = halfW d _ from ((and_low d.a3 g3).trans hw.symm))
      clear hw g0 g1 g2 g3 g4 g5
      refine Spec.body (C := cx [] 34) fits (fn := Try.f69) Try.func69 rfl (by decide) (by decide) (gI ?_)
      repeat' (first | ((first | refine C_r ?_ | refine C0_r ?_ | refine O_r ?_ | refine R_r ?_); (conv => whnf); first | (refine ⟨fun hb => ?_, fun hb => ?_⟩ <;> try exact no_way) | refine A_o ?_ | refine B_o ?_ | refine C_o ?_ | refine R_o ?_ | refine fR ?_ | refine fRk ?_ | refine F_o ?_) | refine C_l (c1) ?_ | refine C_l (c2) ?_ | refine SA_l ?_ | refine V_l ?_ | refine L_l ?_ | refine Q_l ?_ | refine X_l ?_ | refine Xa_l ?_ | refine Xs_l ?_ | refine K_l ?_ | refine Ka_l ?_ | refine Lk_l ?_ | refine Up_l ?_ | refine Del_l ?_ | refine St_l ?_ | refine LU_l ?_ | refine Xw_l ?_ | refine Le_l ?_ | refine Se_l ?_ | refine M_l ?_ | refine A_l ?_ | refine A0_l ?_ | refine A1_l ?_ | refine Mk_l ?_ | refine Kz_l ?_ | refine W_l ?_ | refine C_d (c1) ?_ | refine C_d (c2) ?_ | refine SA_d ?_ | refine V_d ?_ | refine L_d ?_ | refine Q_d ?_ | refine X_d ?_ | refine Xs_d ?_ | refine K_d ?_ | refine Ka_d ?_ | refine Lk_d ?_ | refine Up_d ?_ | refine A_d ?_ | refine A0_d ?_ | refine St_d ?_ | refine LU_d ?_ | refine Xw_d ?_ | refine Le_d ?_ | refine Se_d ?_ | refine M_d ?_ | refine Mk_d ?_ | refine N_d ?_ | refine Kz_d ?_ | refine W_d ?_ | fail)
      all_goals first | exact ⟨rfl, rfl⟩ | trace_state
    · have c2 := c2 _ (show _ = halfW d _ from ((and_low d.a4 g4).trans hw.symm))
      clear hw g0 g1 g2 g3 g4 g5
      refine Spec.body (C := cx [] 34) fits (fn := Try.f69) Try.func69 rfl (by decide) (by decide) (gI ?_)
      repeat' (first | ((first | refine C_r ?_ | refine C0_r ?_ | refine O_r ?_ | refine R_r ?_); (conv => whnf); first | (refine ⟨fun hb => ?_, fun hb => ?_⟩ <;> try exact no_way) | refine A_o ?_ | refine B_o ?_ | refine C_o ?_ | refine R_o ?_ | refine fR ?_ | refine fRk ?_ | refine F_o ?_) | refine C_l (c1) ?_ | refine C_l (c2) ?_ | refine SA_l ?_ | refine V_l ?_ | refine L_l ?_ | refine Q_l ?_ | refine X_l ?_ | refine Xa_l ?_ | refine Xs_l ?_ | refine K_l ?_ | refine Ka_l ?_ | refine Lk_l ?_ | refine Up_l ?_ | refine Del_l ?_ | refine St_l ?_ | refine LU_l ?_ | refine Xw_l ?_ | refine Le_l ?_ | refine Se_l ?_ | refine M_l ?_ | refine A_l ?_ | refine A0_l ?_ | refine A1_l ?_ | refine Mk_l ?_ | refine Kz_l ?_ | refine W_l ?_ | refine C_d (c1) ?_ | refine C_d (c2) ?_ | refine SA_d ?_ | refine V_d ?_ | refine L_d ?_ | refine Q_d ?_ | refine X_d ?_ | refine Xs_d ?_ | refine K_d ?_ | refine Ka_d ?_ | refine Lk_d ?_ | refine Up_d ?_ | refine A_d ?_ | refine A0_d ?_ | refine St_d ?_ | refine LU_d ?_ | refine Xw_d ?_ | refine Le_d ?_ | refine Se_d ?_ | refine M_d ?_ | refine Mk_d ?_ | refine N_d ?_ | refine Kz_d ?_ | refine W_d ?_ | fail)
      all_goals first | exact ⟨rfl, rfl⟩ | trace_state
    · have c2 := c2 _ (show _ = halfW d _ from ((and_low d.a5 g5).trans hw.symm))
      clear hw g0 g1 g2 g3 g4 g5
      refine Spec.body (C := cx [] 34) fits (fn := Try.f69) Try.func69 rfl (by decide) (by decide) (gI ?_)
      repeat' (first | ((first | refine C_r ?_ | refine C0_r ?_ | refine O_r ?_ | refine R_r ?_); (conv => whnf); first | (refine ⟨fun hb => ?_, fun hb => ?_⟩ <;> try exact no_way) | refine A_o ?_ | refine B_o ?_ | refine C_o ?_ | refine R_o ?_ | refine fR ?_ | refine fRk ?_ | refine F_o ?_) | refine C_l (c1) ?_ | refine C_l (c2) ?_ | refine SA_l ?_ | refine V_l ?_ | refine L_l ?_ | refine Q_l ?_ | refine X_l ?_ | refine Xa_l ?_ | refine Xs_l ?_ | refine K_l ?_ | refine Ka_l ?_ | refine Lk_l ?_ | refine Up_l ?_ | refine Del_l ?_ | refine St_l ?_ | refine LU_l ?_ | refine Xw_l ?_ | refine Le_l ?_ | refine Se_l ?_ | refine M_l ?_ | refine A_l ?_ | refine A0_l ?_ | refine A1_l ?_ | refine Mk_l ?_ | refine Kz_l ?_ | refine W_l ?_ | refine C_d (c1) ?_ | refine C_d (c2) ?_ | refine SA_d ?_ | refine V_d ?_ | refine L_d ?_ | refine Q_d ?_ | refine X_d ?_ | refine Xs_d ?_ | refine K_d ?_ | refine Ka_d ?_ | refine Lk_d ?_ | refine Up_d ?_ | refine A_d ?_ | refine A0_d ?_ | refine St_d ?_ | refine LU_d ?_ | refine Xw_d ?_ | refine Le_d ?_ | refine Se_d ?_ | refine M_d ?_ | refine Mk_d ?_ | refine N_d ?_ | refine Kz_d ?_ | refine W_d ?_ | fail)
      all_goals first | exact ⟨rfl, rfl⟩ | trace_state
  | true =>
    simp only [cond_true] at hw
    rcases hop with rfl | rfl | rfl | rfl | rfl | rfl
    · have c2 := c2 _ (show _ = halfW d _ from ((sh_hi d.a0 g0).trans hw.symm))
      clear hw g0 g1 g2 g3 g4 g5
      refine Spec.body (C := cx [] 34) fits (fn := Try.f69) Try.func69 rfl (by decide) (by decide) (gI ?_)
      repeat' (first | ((first | refine C_r ?_ | refine C0_r ?_ | refine O_r ?_ | refine R_r ?_); (conv => whnf); first | (refine ⟨fun hb => ?_, fun hb => ?_⟩ <;> try exact no_way) | refine A_o ?_ | refine B_o ?_ | refine C_o ?_ | refine R_o ?_ | refine fR ?_ | refine fRk ?_ | refine F_o ?_) | refine C_l (c1) ?_ | refine C_l (c2) ?_ | refine SA_l ?_ | refine V_l ?_ | refine L_l ?_ | refine Q_l ?_ | refine X_l ?_ | refine Xa_l ?_ | refine Xs_l ?_ | refine K_l ?_ | refine Ka_l ?_ | refine Lk_l ?_ | refine Up_l ?_ | refine Del_l ?_ | refine St_l ?_ | refine LU_l ?_ | refine Xw_l ?_ | refine Le_l ?_ | refine Se_l ?_ | refine M_l ?_ | refine A_l ?_ | refine A0_l ?_ | refine A1_l ?_ | refine Mk_l ?_ | refine Kz_l ?_ | refine W_l ?_ | refine C_d (c1) ?_ | refine C_d (c2) ?_ | refine SA_d ?_ | refine V_d ?_ | refine L_d ?_ | refine Q_d ?_ | refine X_d ?_ | refine Xs_d ?_ | refine K_d ?_ | refine Ka_d ?_ | refine Lk_d ?_ | refine Up_d ?_ | refine A_d ?_ | refine A0_d ?_ | refine St_d ?_ | refine LU_d ?_ | refine Xw_d ?_ | refine Le_d ?_ | refine Se_d ?_ | refine M_d ?_ | refine Mk_d ?_ | refine N_d ?_ | refine Kz_d ?_ | refine W_d ?_ | fail)
      all_goals first | exact ⟨rfl, rfl⟩ | trace_state
    · have c2 := c2 _ (show _ = halfW d _ from ((sh_hi d.a1 g1).trans hw.symm))
      clear hw g0 g1 g2 g3 g4 g5
      refine Spec.body (C := cx [] 34) fits (fn := Try.f69) Try.func69 rfl (by decide) (by decide) (gI ?_)
      repeat' (first | ((first | refine C_r ?_ | refine C0_r ?_ | refine O_r ?_ | refine R_r ?_); (conv => whnf); first | (refine ⟨fun hb => ?_, fun hb => ?_⟩ <;> try exact no_way) | refine A_o ?_ | refine B_o ?_ | refine C_o ?_ | refine R_o ?_ | refine fR ?_ | refine fRk ?_ | refine F_o ?_) | refine C_l (c1) ?_ | refine C_l (c2) ?_ | refine SA_l ?_ | refine V_l ?_ | refine L_l ?_ | refine Q_l ?_ | refine X_l ?_ | refine Xa_l ?_ | refine Xs_l ?_ | refine K_l ?_ | refine Ka_l ?_ | refine Lk_l ?_ | refine Up_l ?_ | refine Del_l ?_ | refine St_l ?_ | refine LU_l ?_ | refine Xw_l ?_ | refine Le_l ?_ | refine Se_l ?_ | refine M_l ?_ | refine A_l ?_ | refine A0_l ?_ | refine A1_l ?_ | refine Mk_l ?_ | refine Kz_l ?_ | refine W_l ?_ | refine C_d (c1) ?_ | refine C_d (c2) ?_ | refine SA_d ?_ | refine V_d ?_ | refine L_d ?_ | refine Q_d ?_ | refine X_d ?_ | refine Xs_d ?_ | refine K_d ?_ | refine Ka_d ?_ | refine Lk_d ?_ | refine Up_d ?_ | refine A_d ?_ | refine A0_d ?_ | refine St_d ?_ | refine LU_d ?_ | refine Xw_d ?_ | refine Le_d ?_ | refine Se_d ?_ | refine M_d ?_ | refine Mk_d ?_ | refine N_d ?_ | refine Kz_d ?_ | refine W_d ?_ | fail)
      all_goals first | exact ⟨rfl, rfl⟩ | trace_state
    · have c2 := c2 _ (show _ = halfW d _ from ((sh_hi d.a2 g2).trans hw.symm))
      clear hw g0 g1 g2 g3 g4 g5
      refine Spec.body (C := cx [] 34) fits (fn := Try.f69) Try.func69 rfl (by decide) (by decide) (gI ?_)
      repeat' (first | ((first | refine C_r ?_ | refine C0_r ?_ | refine O_r ?_ | refine R_r ?_); (conv => whnf); first | (refine ⟨fun hb => ?_, fun hb => ?_⟩ <;> try exact no_way) | refine A_o ?_ | refine B_o ?_ | refine C_o ?_ | refine R_o ?_ | refine fR ?_ | refine fRk ?_ | refine F_o ?_) | refine C_l (c1) ?_ | refine C_l (c2) ?_ | refine SA_l ?_ | refine V_l ?_ | refine L_l ?_ | refine Q_l ?_ | refine X_l ?_ | refine Xa_l ?_ | refine Xs_l ?_ | refine K_l ?_ | refine Ka_l ?_ | refine Lk_l ?_ | refine Up_l ?_ | refine Del_l ?_ | refine St_l ?_ | refine LU_l ?_ | refine Xw_l ?_ | refine Le_l ?_ | refine Se_l ?_ | refine M_l ?_ | refine A_l ?_ | refine A0_l ?_ | refine A1_l ?_ | refine Mk_l ?_ | refine Kz_l ?_ | refine W_l ?_ | refine C_d (c1) ?_ | refine C_d (c2) ?_ | refine SA_d ?_ | refine V_d ?_ | refine L_d ?_ | refine Q_d ?_ | refine X_d ?_ | refine Xs_d ?_ | refine K_d ?_ | refine Ka_d ?_ | refine Lk_d ?_ | refine Up_d ?_ | refine A_d ?_ | refine A0_d ?_ | refine St_d ?_ | refine LU_d ?_ | refine Xw_d ?_ | refine Le_d ?_ | refine Se_d ?_ | refine M_d ?_ | refine Mk_d ?_ | refine N_d ?_ | refine Kz_d ?_ | refine W_d ?_ | fail)
      all_goals first | exact ⟨rfl, rfl⟩ | trace_state
    · have c2 := c2 _ (show _ = halfW d _ from ((sh_hi d.a3 g3).trans hw.symm))
      clear hw g0 g1 g2 g3 g4 g5
      refine Spec.body (C := cx [] 34) fits (fn := Try.f69) Try.func69 rfl (by decide) (by decide) (gI ?_)
      repeat' (first | ((first | refine C_r ?_ | refine C0_r ?_ | refine O_r ?_ | refine R_r ?_); (conv => whnf); first | (refine ⟨fun hb => ?_, fun hb => ?_⟩ <;> try exact no_way) | refine A_o ?_ | refine B_o ?_ | refine C_o ?_ | refine R_o ?_ | refine fR ?_ | refine fRk ?_ | refine F_o ?_) | refine C_l (c1) ?_ | refine C_l (c2) ?_ | refine SA_l ?_ | refine V_l ?_ | refine L_l ?_ | refine Q_l ?_ | refine X_l ?_ | refine Xa_l ?_ | refine Xs_l ?_ | refine K_l ?_ | refine Ka_l ?_ | refine Lk_l ?_ | refine Up_l ?_ | refine Del_l ?_ | refine St_l ?_ | refine LU_l ?_ | refine Xw_l ?_ | refine Le_l ?_ | refine Se_l ?_ | refine M_l ?_ | refine A_l ?_ | refine A0_l ?_ | refine A1_l ?_ | refine Mk_l ?_ | refine Kz_l ?_ | refine W_l ?_ | refine C_d (c1) ?_ | refine C_d (c2) ?_ | refine SA_d ?_ | refine V_d ?_ | refine L_d ?_ | refine Q_d ?_ | refine X_d ?_ | refine Xs_d ?_ | refine K_d ?_ | refine Ka_d ?_ | refine Lk_d ?_ | refine Up_d ?_ | refine A_d ?_ | refine A0_d ?_ | refine St_d ?_ | refine LU_d ?_ | refine Xw_d ?_ | refine Le_d ?_ | refine Se_d ?_ | refine M_d ?_ | refine Mk_d ?_ | refine N_d ?_ | refine Kz_d ?_ | refine W_d ?_ | fail)
      all_goals first | exact ⟨rfl, rfl⟩ | trace_state
    · have c2 := c2 _ (show _ = halfW d _ from ((sh_hi d.a4 g4).trans hw.symm))
      clear hw g0 g1 g2 g3 g4 g5
      refine Spec.body (C := cx [] 34) fits (fn := Try.f69) Try.func69 rfl (by decide) (by decide) (gI ?_)
      repeat' (first | ((first | refine C_r ?_ | refine C0_r ?_ | refine O_r ?_ | refine R_r ?_); (conv => whnf); first | (refine ⟨fun hb => ?_, fun hb => ?_⟩ <;> try exact no_way) | refine A_o ?_ | refine B_o ?_ | refine C_o ?_ | refine R_o ?_ | refine fR ?_ | refine fRk ?_ | refine F_o ?_) | refine C_l (c1) ?_ | refine C_l (c2) ?_ | refine SA_l ?_ | refine V_l ?_ | refine L_l ?_ | refine Q_l ?_ | refine X_l ?_ | refine Xa_l ?_ | refine Xs_l ?_ | refine K_l ?_ | refine Ka_l ?_ | refine Lk_l ?_ | refine Up_l ?_ | refine Del_l ?_ | refine St_l ?_ | refine LU_l ?_ | refine Xw_l ?_ | refine Le_l ?_ | refine Se_l ?_ | refine M_l ?_ | refine A_l ?_ | refine A0_l ?_ | refine A1_l ?_ | refine Mk_l ?_ | refine Kz_l ?_ | refine W_l ?_ | refine C_d (c1) ?_ | refine C_d (c2) ?_ | refine SA_d ?_ | refine V_d ?_ | refine L_d ?_ | refine Q_d ?_ | refine X_d ?_ | refine Xs_d ?_ | refine K_d ?_ | refine Ka_d ?_ | refine Lk_d ?_ | refine Up_d ?_ | refine A_d ?_ | refine A0_d ?_ | refine St_d ?_ | refine LU_d ?_ | refine Xw_d ?_ | refine Le_d ?_ | refine Se_d ?_ | refine M_d ?_ | refine Mk_d ?_ | refine N_d ?_ | refine Kz_d ?_ | refine W_d ?_ | fail)
      all_goals first | exact ⟨rfl, rfl⟩ | trace_state
    · have c2 := c2 _ (show _ = halfW d _ from ((sh_hi d.a5 g5).trans hw.symm))
      clear hw g0 g1 g2 g3 g4 g5
      refine Spec.body (C := cx [] 34) fits (fn := Try.f69) Try.func69 rfl (by decide) (by decide) (gI ?_)
      repeat' (first | ((first | refine C_r ?_ | refine C0_r ?_ | refine O_r ?_ | refine R_r ?_); (conv => whnf); first | (refine ⟨fun hb => ?_, fun hb => ?_⟩ <;> try exact no_way) | refine A_o ?_ | refine B_o ?_ | refine C_o ?_ | refine R_o ?_ | refine fR ?_ | refine fRk ?_ | refine F_o ?_) | refine C_l (c1) ?_ | refine C_l (c2) ?_ | refine SA_l ?_ | refine V_l ?_ | refine L_l ?_ | refine Q_l ?_ | refine X_l ?_ | refine Xa_l ?_ | refine Xs_l ?_ | refine K_l ?_ | refine Ka_l ?_ | refine Lk_l ?_ | refine Up_l ?_ | refine Del_l ?_ | refine St_l ?_ | refine LU_l ?_ | refine Xw_l ?_ | refine Le_l ?_ | refine Se_l ?_ | refine M_l ?_ | refine A_l ?_ | refine A0_l ?_ | refine A1_l ?_ | refine Mk_l ?_ | refine Kz_l ?_ | refine W_l ?_ | refine C_d (c1) ?_ | refine C_d (c2) ?_ | refine SA_d ?_ | refine V_d ?_ | refine L_d ?_ | refine Q_d ?_ | refine X_d ?_ | refine Xs_d ?_ | refine K_d ?_ | refine Ka_d ?_ | refine Lk_d ?_ | refine Up_d ?_ | refine A_d ?_ | refine A0_d ?_ | refine St_d ?_ | refine LU_d ?_ | refine Xw_d ?_ | refine Le_d ?_ | refine Se_d ?_ | refine M_d ?_ | refine Mk_d ?_ | refine N_d ?_ | refine Kz_d ?_ | refine W_d ?_ | fail)
      all_goals first | exact ⟨rfl, rfl⟩ | trace_state
end Go.Proofs.Ytcplpllbinilmaa
