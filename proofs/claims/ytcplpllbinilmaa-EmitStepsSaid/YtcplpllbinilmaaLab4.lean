/- The reference's machine: data, words, reckoning. -/
import Derived.Test.YtcplpllbinilmaaLab3
set_option linter.unusedVariables false
set_option linter.unusedSimpArgs false
namespace Go.Proofs.Ytcplpllbinilmaa
open Go Go.Am Go.Proofs
attribute [local irreducible] W WL DL WO RoundEnd
set_option maxRecDepth 10000
set_option maxHeartbeats 4000000
set_option linter.unusedVariables false
set_option linter.unusedSimpArgs false
/-- a number in so many bytes, from the i-th on -/
def numF (n : Int) (i : Nat) : Nat → List UInt8
  | 0 => []
  | s + 1 => u8 (n / 2 ^ (8 * i)) :: numF n (i + 1) s
theorem and_u64 {m : Int} (h0 : 0 ≤ m) (h1 : m < 18446744073709551616) : IntKind.u64.wrap ↑(BitVec.ofInt IntKind.u64.bits m &&& BitVec.ofInt IntKind.u64.bits 255).toNat = m % 256 := by
  obtain ⟨k, rfl⟩ := Int.eq_ofNat_of_zero_le h0
  show IntKind.u64.wrap ↑(BitVec.ofInt 64 (k : Int) &&& BitVec.ofInt 64 255).toNat = _
  rw [and_nat 64 k (by decide) (by omega), wrap_u64 (by omega) (by omega)]
  omega
theorem fdiv_at {n d : Int} (h0 : 0 ≤ n) (hd : 0 < d) : n.fdiv d = n / d := by
  rw [Int.fdiv_eq_ediv_of_nonneg _ (by omega)]
theorem byte_row {n : Int} {i : Nat} (h0 : 0 ≤ n) (h1 : n < 18446744073709551616) (hi : i < 8) {w : Int} (hw : w = 8 * (i : Int)) : [D.sc (.int .u8 (IntKind.u8.wrap (IntKind.u64.wrap ↑(BitVec.ofInt IntKind.u64.bits (n.fdiv (2 ^ min w.toNat IntKind.u64.bits)) &&& BitVec.ofInt IntKind.u64.bits 255).toNat)))] = u8row (u8 (n / 2 ^ (8 * i))) := by
  have e1 : min w.toNat IntKind.u64.bits = 8 * i := by
    have : w.toNat = 8 * i := by omega
    rw [this]
    show min (8 * i) 64 = 8 * i
    omega
  have hp : (0 : Int) < 2 ^ (8 * i) := Int.pow_pos (by decide)
  have h2 : 0 ≤ n / 2 ^ (8 * i) := Int.ediv_nonneg h0 (by omega)
  have h3 : n / 2 ^ (8 * i) ≤ n := Int.ediv_le_self _ h0
  rw [e1, fdiv_at h0 hp, and_u64 h2 (by omega), u8row_wrap]
  congr 1
  unfold u8
  congr 2
  omega
theorem numR (rows : List (List D)) (ep : Nat) (n : Int) (s : Nat) (h0 : 0 ≤ n) (h1 : n < 2 ^ 64) (hs : s ≤ 8) (hr : rows.length < 2 ^ 20) : Am.Spec Try.prog 73 [.one (.arr 0 ep rows.length), int .u64 n, int .i64 s] [.arr ep false 1 rows] (fun v σ => v = .one (.arr 0 ep (rows ++ (numF n 0 s).map u8row).length) ∧ σ = [.arr ep false 1 (rows ++ (numF n 0 s).map u8row)]) := by
  generalize hfb : rows ++ (numF n 0 s).map u8row = fb
  refine Spec.body (C := cx [] 24) fits (fn := Try.f73) Try.func73 rfl (by decide) (by decide) (gI ?_)
  repeat' (first | (refine C_r ?_; (conv => whnf); first | refine A_o ?_) | fail)
  refine wLoop [0, 1, 2, 7] 1 (s + 1) ?_
  refine (fun key => key s 0 rows _ rfl (by omega) (by omega) hfb.symm :
    (∀ (rest i : Nat) (rs : List (List D)) (j : Int), j = i → (s : Int) = j + rest → rs.length ≤ rows.length + i → fb = rs ++ (numF n i rest).map u8row →
    WR2 _ _ _ _ _ (rest + 1) [(0, .one (.arr 0 ep rs.length)), (1, int .u64 n), (2, int .i64 s), (7, int .i64 j)] [.arr ep false 1 rs]) → _) ?_
  intro rest
  induction rest with
  | zero =>
    intro i rs j h2 h3 h4 h5
    refine wR (gI ?_)
    repeat' (first | ((first | refine C_r ?_ | refine O_r ?_); (conv => whnf); first | (refine ⟨fun hb => ?_, fun hb => ?_⟩ <;> try exact no_way) | refine A_o ?_ | refine fRk ?_) | fail)
    rw [numF, List.map_nil, List.append_nil] at h5
    subst h5
    exact ⟨rfl, rfl⟩
  | succ rest ih =>
    intro i rs j h2 h3 h4 h5
    have hw : IntKind.wrap .u64 (IntKind.wrap .i64 (8 * j)) = 8 * j := by rw [wrap_ok (by omega) (by omega), wrap_u64 (by omega) (by omega)]
    refine wR (gI ?_)
    repeat' (first | ((first | refine C_r ?_ | refine O_r ?_); (conv => whnf); first | (refine ⟨fun hb => ?_, fun hb => ?_⟩ <;> try exact no_way) | refine B_o ?_ | refine R_o ?_) | refine V_l ?_ | refine A_l ?_ | fail)
    have g := ih (i + 1) (rs ++ [u8row (u8 (n / 2 ^ (8 * i)))]) (IntKind.wrap .i64 (j + 1)) (by rw [wrap_ok (by omega) (by omega)]; omega) (by rw [wrap_ok (by omega) (by omega)]; omega) (by simp; omega) (by rw [h5, numF]; simp)
    rw [← byte_row h0 h1 (i := i) (by omega) (w := IntKind.wrap .u64 (IntKind.wrap .i64 (8 * j))) (by omega)] at g
    exact rE g
/-- .. onto nothing -/
theorem numN (n : Int) (h0 : 0 ≤ n) (h1 : n < 2 ^ 64) : Am.Spec Try.prog 73 [nilV, int .u64 n, int .i64 4] [] (fun v σ => v = .one (.arr 0 0 ((numF n 0 4).map u8row).length) ∧ σ = [.arr 0 false 1 ((numF n 0 4).map u8row), .dead, .dead, .dead]) := by
  have e0 := byte_row h0 h1 (i := 0) (by decide) (w := IntKind.wrap .u64 (IntKind.wrap .i64 (8 * 0))) rfl
  have e1 := byte_row h0 h1 (i := 1) (by decide) (w := IntKind.wrap .u64 (IntKind.wrap .i64 (8 * IntKind.wrap .i64 (0 + 1)))) rfl
  have e2 := byte_row h0 h1 (i := 2) (by decide) (w := IntKind.wrap .u64 (IntKind.wrap .i64 (8 * IntKind.wrap .i64 (IntKind.wrap .i64 (0 + 1) + 1)))) rfl
  have e3 := byte_row h0 h1 (i := 3) (by decide) (w := IntKind.wrap .u64 (IntKind.wrap .i64 (8 * IntKind.wrap .i64 (IntKind.wrap .i64 (IntKind.wrap .i64 (0 + 1) + 1) + 1)))) rfl
  refine Spec.body (C := cx [(22, false)] 24) fits (fn := Try.f73) Try.func73 rfl (by decide) (by decide) (gI ?_)
  repeat' (first | (refine C_r ?_; (conv => whnf); first | refine A_o ?_) | fail)
  refine W.rounds 6 ?_
  refine WR.step (gI ?_)
  repeat' (first | ((first | refine C_r ?_ | refine C0_r ?_ | refine O_r ?_); (conv => whnf); first | (refine ⟨fun hb => ?_, fun hb => ?_⟩ <;> try exact no_way) | refine A_o ?_ | refine B_o ?_ | refine fR' ?_) | refine Q_l ?_ | refine M_l ?_ | fail)
  rw [e0, e1, e2, e3]
  exact ⟨rfl, rfl⟩
/-- data -/
structure Dat where
  nr : Int
  arch : Int
  ip : Int
  a0 : Int
  a1 : Int
  a2 : Int
  a3 : Int
  a4 : Int
  a5 : Int
def Dat.row (d : Dat) : List D := [.sc (.int .u32 d.nr), .sc (.int .u32 d.arch), .sc (.int .u64 d.ip), .sc (.int .u64 d.a0), .sc (.int .u64 d.a1), .sc (.int .u64 d.a2), .sc (.int .u64 d.a3), .sc (.int .u64 d.a4), .sc (.int .u64 d.a5)]
def Dat.ok (d : Dat) : Prop := (0 ≤ d.nr ∧ d.nr < 2 ^ 32) ∧ (0 ≤ d.arch ∧ d.arch < 2 ^ 32) ∧ (0 ≤ d.ip ∧ d.ip < 2 ^ 64) ∧ (0 ≤ d.a0 ∧ d.a0 < 2 ^ 64) ∧ (0 ≤ d.a1 ∧ d.a1 < 2 ^ 64) ∧ (0 ≤ d.a2 ∧ d.a2 < 2 ^ 64) ∧ (0 ≤ d.a3 ∧ d.a3 < 2 ^ 64) ∧ (0 ≤ d.a4 ∧ d.a4 < 2 ^ 64) ∧ (0 ≤ d.a5 ∧ d.a5 < 2 ^ 64)
def Dat.bytes (d : Dat) : List UInt8 := numF d.nr 0 4 ++ numF d.arch 0 4 ++ numF d.ip 0 8 ++ numF d.a0 0 8 ++ numF d.a1 0 8 ++ numF d.a2 0 8 ++ numF d.a3 0 8 ++ numF d.a4 0 8 ++ numF d.a5 0 8
/-- a number out of bytes -/
def getF (bs : List UInt8) (a : Nat) : Nat → Int → Int
  | 0, n => n
  | s + 1, n => getF bs a s (n * 256 + ((bs[a + s]?).getD 0).toNat)
theorem or_u64 {n : Int} {b : Nat} (h0 : 0 ≤ n) (h1 : n < 2 ^ 56) (hb : b < 256) : IntKind.u64.wrap ↑(BitVec.ofInt IntKind.u64.bits (IntKind.u64.wrap (n * 2 ^ min (8 : Int).toNat IntKind.u64.bits)) ||| BitVec.ofInt IntKind.u64.bits (IntKind.u64.wrap (b : Int))).toNat = n * 256 + b := by
  obtain ⟨k, rfl⟩ := Int.eq_ofNat_of_zero_le h0
  have e1 : min (8 : Int).toNat IntKind.u64.bits = 8 := rfl
  rw [e1, wrap_u64 (n := (b : Int)) (by omega) (by omega), wrap_u64 (n := (k : Int) * 2 ^ 8) (by omega) (by omega), BitVec.or_comm]
  show IntKind.u64.wrap ↑(BitVec.ofInt 64 (b : Int) ||| BitVec.ofInt 64 ((k : Int) * 2 ^ 8)).toNat = _
  have e2 : (k : Int) * 2 ^ 8 = ((2 ^ 8 * k : Nat) : Int) := by omega
  rw [e2, or_nat 64 b k 8 (by omega) (by omega), wrap_u64 (by omega) (by omega)]
  omega
theorem getR (bs : List UInt8) (a s : Nat) (hs : s ≤ 7) (ha : a + s ≤ bs.length) (hl : bs.length < 2 ^ 40) : Comp Try.prog 63 [bytesV bs, int .i64 a, int .i64 s] (int .u64 (getF bs a s 0)) := by
  generalize hfb : getF bs a s 0 = fb
  refine Spec.body (C := cx [] 26) fits (fn := Try.f63) Try.func63 rfl (by decide) (by decide) (gI ?_)
  repeat' (first | (refine C_r ?_; (conv => whnf); first | refine A_o ?_) | fail)
  refine wLoop [0, 1, 7, 8] 0 (s + 1) ?_
  refine (fun key => key s _ 0 (wrap_okz (by omega) (by omega)) (Nat.le_refl _) (by omega) (by rw [Nat.sub_self]; decide) hfb.symm :
    (∀ (rest : Nat) (j n : Int), j = (rest : Int) - 1 → rest ≤ s → 0 ≤ n → n < 2 ^ (8 * (s - rest)) → fb = getF bs a rest n →
    WR2 _ _ _ _ _ (rest + 1) [(0, bytesV bs), (1, int .i64 a), (7, int .u64 n), (8, int .i64 j)] []) → _) ?_
  intro rest
  induction rest with
  | zero =>
    intro j n h1 h2 h3 h4 h5
    refine wR (gI ?_)
    repeat' (first | ((first | refine C_r ?_ | refine O_r ?_); (conv => whnf); first | (refine ⟨fun hb => ?_, fun hb => ?_⟩ <;> try exact no_way) | refine A_o ?_ | refine fR ?_) | fail)
    exact ⟨by rw [h5]; rfl, rfl⟩
  | succ rest ih =>
    intro j n h1 h2 h3 h4 h5
    obtain ⟨b, hb0⟩ : ∃ b, bs[a + rest]? = some b := ⟨bs[a + rest]'(by omega), List.getElem?_eq_getElem (by omega)⟩
    have hw : IntKind.wrap .i64 ((a : Int) + j) = ((a + rest : Nat) : Int) := by rw [wrap_ok (by omega) (by omega)]; omega
    have h6 : (bs.map u8row)[(IntKind.wrap .i64 ((a : Int) + j)).toNat]? = some (u8row b) := by
      rw [hw, List.getElem?_map]
      show Option.map u8row bs[a + rest]? = _
      rw [hb0]; rfl
    have h7 : 0 ≤ IntKind.wrap .i64 ((a : Int) + j) := by omega
    have hp : (2 : Int) ^ (8 * (s - (rest + 1))) ≤ 2 ^ 48 := by
      have : (2 : Nat) ^ (8 * (s - (rest + 1))) ≤ 2 ^ 48 := Nat.pow_le_pow_right (by decide) (by omega)
      exact_mod_cast this
    have hbb := u8_lt b
    have ho := or_u64 (n := n) (b := b.toNat) h3 (by omega) hbb
    refine wR (gI ?_)
    repeat' (first | ((first | refine C_r ?_ | refine O_r ?_); (conv => whnf); first | (refine ⟨fun hb => ?_, fun hb => ?_⟩ <;> try exact no_way) | refine B_o ?_ | refine R_o ?_) | refine X_l ?_ | fail)
    have g := ih (IntKind.wrap .i64 (j - 1)) (n * 256 + (b.toNat : Int)) (by rw [wrap_okz (by omega) (by omega)]; omega) (by omega) (by omega) ?_ (by rw [h5, getF, hb0]; rfl)
    · rw [← ho] at g
      exact rE g
    · have e : s - rest = (s - (rest + 1)) + 1 := by omega
      rw [e, Nat.mul_add, Int.pow_add]
      have : (2 : Int) ^ (8 * 1) = 256 := rfl
      omega
theorem numN' {n n' : Int} (hn : n' = n) (h0 : 0 ≤ n) (h1 : n < 2 ^ 64) : Am.Spec Try.prog 73 [nilV, int .u64 n', int .i64 4] [.dead, .dead, .dead, .dead] (fun v σ => v = .one (.arr 0 0 ((numF n 0 4).map u8row).length) ∧ σ = [.arr 0 false 1 ((numF n 0 4).map u8row), .dead, .dead, .dead]) := by
  subst hn; exact Spec.dead 4 (numN _ h0 h1) rfl (by rintro _ _ ⟨_, rfl⟩; simp)
theorem numR' {n n' : Int} (hn : n' = n) (rows : List (List D)) (ep : Nat) (s : Nat) (h0 : 0 ≤ n) (h1 : n < 2 ^ 64) (hs : s ≤ 8) (hr : rows.length < 2 ^ 20) : Am.Spec Try.prog 73 [.one (.arr 0 ep rows.length), int .u64 n', int .i64 s] [.arr ep false 1 rows] (fun v σ => v = .one (.arr 0 ep (rows ++ (numF n 0 s).map u8row).length) ∧ σ = [.arr ep false 1 (rows ++ (numF n 0 s).map u8row)]) := by
  subst hn; exact numR rows ep _ s h0 h1 hs hr
theorem num_len (n : Int) : ∀ (s i : Nat), (numF n i s).length = s
  | 0, _ => rfl
  | s + 1, i => by rw [numF, List.length_cons, num_len n s]
theorem bytes_len (d : Dat) : d.bytes.length = 64 := by simp [Dat.bytes, num_len]
theorem dataBytesR (d : Dat) (hd : d.ok) : Comp Try.prog 64 [.agg (d.row.map .d)] (bytesV d.bytes) := by
  obtain ⟨nr, ar, ip, a0, a1, a2, a3, a4, a5⟩ := d
  obtain ⟨h1, h2, h3, k0, k1, k2, k3, k4, k5⟩ := hd
  simp only at h1 h2 h3 k0 k1 k2 k3 k4 k5
  have c1 := numN' (wrap_u64 (n := nr) (by omega) (by omega)) (by omega) (by omega)
  have c2 := numR' (wrap_u64 (n := ar) (by omega) (by omega)) ((numF nr 0 4).map u8row) 0 4 (by omega) (by omega) (by omega) (by simp [num_len])
  have c3 := numR ((numF nr 0 4).map u8row ++ (numF ar 0 4).map u8row) 0 ip 8 (by omega) (by omega) (by omega) (by simp [num_len])
  have c4 := numR' (n := a0) rfl ((numF nr 0 4).map u8row ++ (numF ar 0 4).map u8row ++ (numF ip 0 8).map u8row) 0 8 (by omega) (by omega) (by omega) (by simp [num_len])
  have c5 := numR' (n := a1) rfl ((numF nr 0 4).map u8row ++ (numF ar 0 4).map u8row ++ (numF ip 0 8).map u8row ++ (numF a0 0 8).map u8row) 0 8 (by omega) (by omega) (by omega) (by simp [num_len])
  have c6 := numR' (n := a2) rfl ((numF nr 0 4).map u8row ++ (numF ar 0 4).map u8row ++ (numF ip 0 8).map u8row ++ (numF a0 0 8).map u8row ++ (numF a1 0 8).map u8row) 0 8 (by omega) (by omega) (by omega) (by simp [num_len])
  have c7 := numR' (n := a3) rfl ((numF nr 0 4).map u8row ++ (numF ar 0 4).map u8row ++ (numF ip 0 8).map u8row ++ (numF a0 0 8).map u8row ++ (numF a1 0 8).map u8row ++ (numF a2 0 8).map u8row) 0 8 (by omega) (by omega) (by omega) (by simp [num_len])
  have c8 := numR' (n := a4) rfl ((numF nr 0 4).map u8row ++ (numF ar 0 4).map u8row ++ (numF ip 0 8).map u8row ++ (numF a0 0 8).map u8row ++ (numF a1 0 8).map u8row ++ (numF a2 0 8).map u8row ++ (numF a3 0 8).map u8row) 0 8 (by omega) (by omega) (by omega) (by simp [num_len])
  have c9 := numR' (n := a5) rfl ((numF nr 0 4).map u8row ++ (numF ar 0 4).map u8row ++ (numF ip 0 8).map u8row ++ (numF a0 0 8).map u8row ++ (numF a1 0 8).map u8row ++ (numF a2 0 8).map u8row ++ (numF a3 0 8).map u8row ++ (numF a4 0 8).map u8row) 0 8 (by omega) (by omega) (by omega) (by simp [num_len])
  refine Spec.body (C := cx [] 27) fits (fn := Try.f64) Try.func64 rfl (by decide) (by decide) (gI ?_)
  refine gRoom ?_
  refine gRoom ?_
  refine gRoom ?_
  refine gRoom ?_
  repeat' (first | ((first | refine C_r ?_ | refine R_r ?_); (conv => whnf); first | refine A_o ?_ | refine C_o ?_) | refine fun k => DL.crn [0, 1, 2, 3] [.dead, .dead, .dead, .dead] _ _ c1 (oD ?_ _) rfl rfl | refine fun k => DL.crp [0] [.arr 0 false 1 ((numF nr 0 4).map u8row)] _ _ c2 (oD ?_ _) rfl rfl | refine fun k => DL.crp [0] [.arr 0 false 1 ((numF nr 0 4).map u8row ++ (numF ar 0 4).map u8row)] _ _ c3 (oD ?_ _) rfl rfl | fail)
  refine W.rounds 7 ?_
  refine WR.step (gI ?_)
  repeat' (first | ((first | refine C_r ?_ | refine C0_r ?_ | refine O_r ?_); (conv => whnf); first | (refine ⟨fun hb => ?_, fun hb => ?_⟩ <;> try exact no_way) | refine A_o ?_ | refine B_o ?_ | refine fR ?_) | refine fun k => WL.crpU [0] [.arr 0 false 1 ((numF nr 0 4).map u8row ++ (numF ar 0 4).map u8row ++ (numF ip 0 8).map u8row)] _ _ c4 (oW ?_ _) | refine fun k => WL.crpU [0] [.arr 0 false 1 ((numF nr 0 4).map u8row ++ (numF ar 0 4).map u8row ++ (numF ip 0 8).map u8row ++ (numF a0 0 8).map u8row)] _ _ c5 (oW ?_ _) | refine fun k => WL.crpU [0] [.arr 0 false 1 ((numF nr 0 4).map u8row ++ (numF ar 0 4).map u8row ++ (numF ip 0 8).map u8row ++ (numF a0 0 8).map u8row ++ (numF a1 0 8).map u8row)] _ _ c6 (oW ?_ _) | refine fun k => WL.crpU [0] [.arr 0 false 1 ((numF nr 0 4).map u8row ++ (numF ar 0 4).map u8row ++ (numF ip 0 8).map u8row ++ (numF a0 0 8).map u8row ++ (numF a1 0 8).map u8row ++ (numF a2 0 8).map u8row)] _ _ c7 (oW ?_ _) | refine fun k => WL.crpU [0] [.arr 0 false 1 ((numF nr 0 4).map u8row ++ (numF ar 0 4).map u8row ++ (numF ip 0 8).map u8row ++ (numF a0 0 8).map u8row ++ (numF a1 0 8).map u8row ++ (numF a2 0 8).map u8row ++ (numF a3 0 8).map u8row)] _ _ c8 (oW ?_ _) | refine fun k => WL.crpU [0] [.arr 0 false 1 ((numF nr 0 4).map u8row ++ (numF ar 0 4).map u8row ++ (numF ip 0 8).map u8row ++ (numF a0 0 8).map u8row ++ (numF a1 0 8).map u8row ++ (numF a2 0 8).map u8row ++ (numF a3 0 8).map u8row ++ (numF a4 0 8).map u8row)] _ _ c9 (oW ?_ _) | fail)
  exact ⟨by simp [bytesV, Dat.bytes], rfl⟩
end Go.Proofs.Ytcplpllbinilmaa
