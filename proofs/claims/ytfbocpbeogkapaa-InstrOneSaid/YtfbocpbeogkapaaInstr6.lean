/- A part of a proof: functions of the program, walked over the abstract machine. -/
import Derived.Test.YtfbocpbeogkapaaInstr4
set_option linter.unusedVariables false
set_option linter.unusedSimpArgs false
namespace Go.Proofs.Ytfbocpbeogkapaa
open Go Go.Am Go.Proofs
attribute [local irreducible] W WL DL WO RoundEnd
set_option maxRecDepth 10000
set_option maxHeartbeats 4000000
theorem one_high (code jt jf k behind : Int) (hr : 0 ≤ code ∧ code ≤ 65535 ∧ 0 ≤ jt ∧ jt ≤ 255 ∧ 0 ≤ jf ∧ jf ≤ 255 ∧ 0 ≤ behind ∧ behind ≤ 20) (hk : 0 ≤ k ∧ k < 4294967296) :
    Comp Try.prog 4 [int .i64 code, int .i64 jt, int .i64 jf, int .u32 k, int .i64 behind] (bool true) := by
  obtain ⟨x, hx⟩ : ∃ x : Ins, x = ⟨code, jt, jf, k⟩ := ⟨_, rfl⟩
  obtain ⟨l, hl⟩ : ∃ l : List Ins, l = List.replicate behind.toNat ⟨0, 0, 0, 0⟩ ++ [x] := ⟨_, rfl⟩
  have hall : l.all Ins.right = true := by
    subst hl hx
    simp [Ins.right]; omega
  have henc : encode l = (List.replicate behind.toNat (⟨0, 0, 0, 0⟩ : Ins)).flatMap Ins.bytes ++ x.bytes := by
    rw [encode, hall, hl]; simp
  have hlen : (encode l).length = 8 * behind.toNat + 8 := by
    rw [henc, List.length_append, bytes_length, List.length_replicate]; rfl
  have hll : l.length = behind.toNat + 1 := by subst hl; simp
  have hrows : List.replicate behind.toNat [D.sc (.int .i64 0), .sc (.int .i64 0), .sc (.int .i64 0), .sc (.int .u32 0)] ++ [[.sc (.int .i64 code), .sc (.int .i64 jt), .sc (.int .i64 jf), .sc (.int .u32 k)]] = l.map Ins.row := by
    subst hl hx; simp [Ins.row]
  have c1 : Comp Try.prog 10 [.one (.d (.list (List.replicate behind.toNat [D.sc (.int .i64 0), .sc (.int .i64 0), .sc (.int .i64 0), .sc (.int .u32 0)] ++ [[.sc (.int .i64 code), .sc (.int .i64 jt), .sc (.int .i64 jf), .sc (.int .u32 k)]])))] (bytesV (encode l)) := by
    rw [hrows]; exact bytesC l (by omega)
  have w8 : IntKind.i64.wrap (8 * behind) = 8 * behind := wrap_ok (by omega) (by omega)
  have w16 : IntKind.i64.wrap (IntKind.i64.wrap (8 * behind) + 8) = 8 * behind + 8 := by rw [w8]; exact wrap_ok (by omega) (by omega)
  have hcut : (((encode l).map u8row).take ((none : Option Int).getD (((encode l).map u8row).length : Int)).toNat).drop ((some (IntKind.i64.wrap (8 * behind))).getD 0).toNat = x.bytes.map u8row := by
    show List.drop (IntKind.i64.wrap (8 * behind)).toNat (List.take (((encode l).map u8row).length : Int).toNat _) = _
    rw [Int.toNat_natCast, List.take_length, w8, henc, List.map_append, List.drop_append_of_le_length (by rw [List.length_map, bytes_length, List.length_replicate]; omega), List.drop_eq_nil_of_le (by rw [List.length_map, bytes_length, List.length_replicate]; omega)]; rfl
  have k1 : IntKind.i64.wrap (IntKind.i64.wrap ((u8 x.code).toNat : Int) + IntKind.i64.wrap (256 * IntKind.i64.wrap ((u8 (x.code / 256)).toNat : Int))) = code := by
    have l0 := u8_lt (u8 x.code)
    have l1 := u8_lt (u8 (x.code / 256))
    rw [wrap64_nat (n := (u8 x.code).toNat) (by omega), wrap64_nat (n := (u8 (x.code / 256)).toNat) (by omega), wrap_ok (n := 256 * ((u8 (x.code / 256)).toNat : Int)) (by omega) (by omega), wrap_ok (by omega) (by omega), u8_toNat, u8_toNat]
    subst hx; simp only []; omega
  have k2 : IntKind.i64.wrap ((u8 x.jt).toNat : Int) = jt := by
    have l0 := u8_lt (u8 x.jt)
    rw [wrap64_nat (by omega), u8_toNat]; subst hx; simp only []; omega
  have k3 : IntKind.i64.wrap ((u8 x.jf).toNat : Int) = jf := by
    have l0 := u8_lt (u8 x.jf)
    rw [wrap64_nat (by omega), u8_toNat]; subst hx; simp only []; omega
  have k4 : IntKind.u32.wrap ↑(BitVec.ofInt IntKind.u32.bits (IntKind.u32.wrap ↑(BitVec.ofInt IntKind.u32.bits (IntKind.u32.wrap ↑(BitVec.ofInt IntKind.u32.bits (IntKind.u32.wrap ↑(u8 x.k).toNat) |||
        BitVec.ofInt IntKind.u32.bits (IntKind.u32.wrap (IntKind.u32.wrap ↑(u8 (x.k / 256)).toNat * 2 ^ min (Int.toNat 8) IntKind.u32.bits))).toNat) |||
        BitVec.ofInt IntKind.u32.bits (IntKind.u32.wrap (IntKind.u32.wrap ↑(u8 (x.k / 65536)).toNat * 2 ^ min (Int.toNat 16) IntKind.u32.bits))).toNat) |||
        BitVec.ofInt IntKind.u32.bits (IntKind.u32.wrap (IntKind.u32.wrap ↑(u8 (x.k / 16777216)).toNat * 2 ^ min (Int.toNat 24) IntKind.u32.bits))).toNat = k := by
    have l0 := u8_lt (u8 x.k)
    have l1 := u8_lt (u8 (x.k / 256))
    have l2 := u8_lt (u8 (x.k / 65536))
    have l3 := u8_lt (u8 (x.k / 16777216))
    have e0 := u8_toNat x.k
    have e1 := u8_toNat (x.k / 256)
    have e2 := u8_toNat (x.k / 65536)
    have e3 := u8_toNat (x.k / 16777216)
    have ek : x.k = k := by subst hx; rfl
    generalize (u8 x.k).toNat = c0 at *
    generalize (u8 (x.k / 256)).toNat = c1 at *
    generalize (u8 (x.k / 65536)).toNat = c2 at *
    generalize (u8 (x.k / 16777216)).toNat = c3 at *
    have h0 : (2 ^ min (Int.toNat 8) IntKind.u32.bits : Int) = ((2 ^ 8 : Nat) : Int) := rfl
    have h1 : (2 ^ min (Int.toNat 16) IntKind.u32.bits : Int) = ((2 ^ 16 : Nat) : Int) := rfl
    have h2 : (2 ^ min (Int.toNat 24) IntKind.u32.bits : Int) = ((2 ^ 24 : Nat) : Int) := rfl
    rw [h0, h1, h2, wrap32_nat (n := c0) (by omega), wrap32_nat (n := c1) (by omega), wrap32_nat (n := c2) (by omega), wrap32_nat (n := c3) (by omega),
      or32 (s := c0) (i := 8) (p := ((2 ^ 8 : Nat) : Int)) rfl (by omega) (by omega), or32 (s := c0 + 2 ^ 8 * c1) (i := 16) (p := ((2 ^ 16 : Nat) : Int)) rfl (by omega) (by omega),
      or32 (s := c0 + 2 ^ 8 * c1 + 2 ^ 16 * c2) (i := 24) (p := ((2 ^ 24 : Nat) : Int)) rfl (by omega) (by omega)]
    omega
  refine Spec.body (C := cx [(51, false)] 125) fits (fn := Try.f4) Try.func4 rfl (by decide) (by decide) (gI ?_)
  repeat' (first
    | ((first | refine gC fits mixed ?_ | refine gC0 fits mixed ?_ | refine gO fits mixed ?_ | refine gR fits mixed ?_); (conv => whnf); first | (refine ⟨fun hb => ?_, fun hb => ?_⟩ <;> try first | (cases hb; done) | (simp only [decide_eq_true_eq, decide_eq_false_iff_not, beq_iff_eq, beq_eq_false_iff_ne, bne_iff_ne, bne_eq_false_iff_eq, ne_eq, List.length_map, List.length_cons, List.length_nil, List.length_append, Bool.not_eq_true', Bool.not_eq_false'] at hb; exfalso; omega) | (exfalso; simp [ba_beq] at hb; done)) | (show W _ _ _ _ _) | (show ∀ k, WL _ _ _ k _ _ _) | (show ∀ k, DL _ _ _ k _ _ _ _) | (show RoundEnd _ _ _ _ _) | refine fR ?_)
    | (show ∀ k, WL _ _ _ k _ _ _; first | refine fun k => lC (alive1) (oW ?_ _) | refine fun k => lC (c1) (oW ?_ _) | refine fun k => lK fits (oW ?_ _) (hr := hcut) | refine fun k => lL fits (oW ?_ _) | refine fun k => lQ fits (oW ?_ _) | refine fun k => lX fits (oW ?_ _) | refine fun k => lXa fits (oW ?_ _) | refine fun k => lK fits (oW ?_ _) | refine fun k => lSt fits (oW ?_ _) | refine fun k => lSA fits (oW ?_ _) | refine fun k => lM fits (oW ?_ _) | refine fun k => lA fits (oW ?_ _) | refine fun k => lA0 fits (oW ?_ _) | refine fun k => lA1 fits (oW ?_ _) | refine fun k => lMk fits (oW ?_ _) | refine fun k => lW fits (oW ?_ _))
    | (show ∀ k, DL _ _ _ k _ _ _ _; first | refine fun k => dC (alive1) (oD ?_ _) | refine fun k => dC (c1) (oD ?_ _) | refine fun k => dL fits (oD ?_ _) | refine fun k => dQ fits (oD ?_ _) | refine fun k => dX fits (oD ?_ _) | refine fun k => dK fits (oD ?_ _) | refine fun k => dSt fits (oD ?_ _) | refine fun k => dSA fits (oD ?_ _) | refine fun k => dM fits (oD ?_ _) | refine fun k => dN fits (oD ?_ _) | refine fun k => dW fits (oD ?_ _)))
  all_goals first
    | exact ⟨rfl, rfl⟩
    | (exfalso; rw [k1] at hb; simp at hb; done)
    | (exfalso; rw [k2] at hb; simp at hb; done)
    | (exfalso; rw [k3] at hb; simp at hb; done)
    | (exfalso; rw [k4] at hb; simp at hb; done)
    | trace_state
theorem one (code jt jf k behind : Int) (hk : 0 ≤ k ∧ k < 4294967296) : Comp Try.prog 4 [int .i64 code, int .i64 jt, int .i64 jf, int .u32 k, int .i64 behind] (bool true) := by
  by_cases hr : 0 ≤ code ∧ code ≤ 65535 ∧ 0 ≤ jt ∧ jt ≤ 255 ∧ 0 ≤ jf ∧ jf ≤ 255 ∧ 0 ≤ behind ∧ behind ≤ 20
  · exact one_high code jt jf k behind hr hk
  · refine Spec.body (C := cx [(51, false)] 125) fits (fn := Try.f4) Try.func4 rfl (by decide) (by decide) (gI ?_)
    repeat' (first
    | ((first | refine gC fits mixed ?_ | refine gC0 fits mixed ?_ | refine gO fits mixed ?_ | refine gR fits mixed ?_); (conv => whnf); first | (refine ⟨fun hb => ?_, fun hb => ?_⟩ <;> try first | (cases hb; done) | (simp only [decide_eq_true_eq, decide_eq_false_iff_not, beq_iff_eq, beq_eq_false_iff_ne, bne_iff_ne, bne_eq_false_iff_eq, ne_eq, List.length_map, List.length_cons, List.length_nil, List.length_append, Bool.not_eq_true', Bool.not_eq_false'] at hb; exfalso; omega) | (exfalso; simp [ba_beq] at hb; done)) | (show W _ _ _ _ _) | (show ∀ k, WL _ _ _ k _ _ _) | (show ∀ k, DL _ _ _ k _ _ _ _) | (show RoundEnd _ _ _ _ _) | refine fR ?_)
    | (show ∀ k, WL _ _ _ k _ _ _; first | refine fun k => lC (alive1) (oW ?_ _) | refine fun k => lL fits (oW ?_ _) | refine fun k => lQ fits (oW ?_ _) | refine fun k => lX fits (oW ?_ _) | refine fun k => lXa fits (oW ?_ _) | refine fun k => lK fits (oW ?_ _) | refine fun k => lSt fits (oW ?_ _) | refine fun k => lSA fits (oW ?_ _) | refine fun k => lM fits (oW ?_ _) | refine fun k => lA fits (oW ?_ _) | refine fun k => lA0 fits (oW ?_ _) | refine fun k => lA1 fits (oW ?_ _) | refine fun k => lMk fits (oW ?_ _) | refine fun k => lW fits (oW ?_ _)))
    all_goals first
      | exact ⟨rfl, rfl⟩
      | (exfalso; simp only [decide_eq_false_iff_not] at *; omega)
end Go.Proofs.Ytfbocpbeogkapaa
