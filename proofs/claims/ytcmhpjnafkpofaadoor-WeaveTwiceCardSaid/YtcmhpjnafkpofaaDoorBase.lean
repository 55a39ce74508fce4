/- Words for the data of the program, and arithmetic. -/
import Derived.Test.YtcmhpjnafkpofaaDoorAmTab
set_option linter.unusedVariables false
set_option linter.unusedSimpArgs false
namespace Go.Proofs.YtcmhpjnafkpofaaDoor
open Go Go.Am Go.Proofs
/-- an instruction -/
structure Ins where
  code : Int
  jt : Int
  jf : Int
  k : Int
  deriving DecidableEq
def Ins.row (x : Ins) : List D := [.sc (.int .i64 x.code), .sc (.int .i64 x.jt), .sc (.int .i64 x.jf), .sc (.int .u32 x.k)]
def Ins.cells (x : Ins) : List Cell := [.d (.sc (.int .i64 x.code)), .d (.sc (.int .i64 x.jt)), .d (.sc (.int .i64 x.jf)), .d (.sc (.int .u32 x.k))]
/-- a list of data -/
def lst {α : Type} (f : α → List D) (l : List α) : V := .one (.d (.list (l.map f)))
/-- a byte -/
def u8row (b : UInt8) : List D := [.sc (.int .u8 (b.toNat : Int))]
def bytesV (bs : List UInt8) : V := .one (.d (.list (bs.map u8row)))
def str (s : ByteArray) : V := .one (.d (.sc (.string s)))
def nilV : V := .one (.d (.sc nilSlice))
/-- the lowest byte of a number -/
def u8 (n : Int) : UInt8 := UInt8.ofNat (n % 256).toNat
theorem u8_toNat (n : Int) : ((u8 n).toNat : Int) = n % 256 := by
  unfold u8
  rw [UInt8.toNat_ofNat']
  omega
theorem wrap_u8 (n : Int) : IntKind.u8.wrap n = ((u8 n).toNat : Int) := by
  rw [u8_toNat]; simp [IntKind.wrap, IntKind.bits, IntKind.signed]
theorem u8row_wrap (n : Int) : [D.sc (.int .u8 (IntKind.u8.wrap n))] = u8row (u8 n) := by rw [wrap_u8]; rfl
theorem wrap_ok {n : Int} (h0 : 0 ≤ n) (h1 : n < 9223372036854775808) : IntKind.i64.wrap n = n := by
  simp [IntKind.wrap, IntKind.bits, IntKind.signed]; omega
theorem wrap_okz {n : Int} (h0 : -9223372036854775808 ≤ n) (h1 : n < 9223372036854775808) : IntKind.i64.wrap n = n := by
  simp [IntKind.wrap, IntKind.bits, IntKind.signed]; omega
theorem wrap_u32 {n : Int} (h0 : 0 ≤ n) (h1 : n < 4294967296) : IntKind.u32.wrap n = n := by
  simp [IntKind.wrap, IntKind.bits, IntKind.signed]; omega
theorem wrap_u64 {n : Int} (h0 : 0 ≤ n) (h1 : n < 18446744073709551616) : IntKind.u64.wrap n = n := by
  simp [IntKind.wrap, IntKind.bits, IntKind.signed]; omega
theorem u8_lt (b : UInt8) : b.toNat < 256 := b.toNat_lt
/-- or, where nothing overlaps -/
theorem or_nat (w s a i : Nat) (hs : s < 2 ^ i) (h : s + 2 ^ i * a < 2 ^ w) : (BitVec.ofInt w (s : Int) ||| BitVec.ofInt w ((2 ^ i * a : Nat) : Int)).toNat = s + 2 ^ i * a := by
  rw [BitVec.toNat_or, BitVec.toNat_ofInt, BitVec.toNat_ofInt]
  have h1 : ((s : Int) % ((2 ^ w : Nat) : Int)).toNat = s := by
    rw [Int.emod_eq_of_lt (by omega) (by omega)]; rfl
  have h2 : (((2 ^ i * a : Nat) : Int) % ((2 ^ w : Nat) : Int)).toNat = 2 ^ i * a := by
    rw [Int.emod_eq_of_lt (by omega) (by omega)]; rfl
  rw [h1, h2, Nat.or_comm, ← Nat.two_pow_add_eq_or_of_lt hs, Nat.add_comm]
theorem and_nat (w n : Nat) (hw : 8 ≤ w) (h : n < 2 ^ w) : (BitVec.ofInt w (n : Int) &&& BitVec.ofInt w 255).toNat = n % 256 := by
  rw [BitVec.toNat_and, BitVec.toNat_ofInt, BitVec.toNat_ofInt]
  have h1 : ((n : Int) % ((2 ^ w : Nat) : Int)).toNat = n := by
    rw [Int.emod_eq_of_lt (by omega) (by omega)]; rfl
  have hp : 2 ^ 8 ≤ 2 ^ w := Nat.pow_le_pow_right (by omega) hw
  have h2 : ((255 : Int) % ((2 ^ w : Nat) : Int)).toNat = 255 := by
    rw [Int.emod_eq_of_lt (by omega) (by omega)]; rfl
  rw [h1, h2]
  exact Nat.and_two_pow_sub_one_eq_mod n 8
theorem wrap64_nat {n : Nat} (h : n < 9223372036854775808) : IntKind.i64.wrap (n : Int) = n := wrap_ok (by omega) (by omega)
theorem wrap32_nat {n : Nat} (h : n < 4294967296) : IntKind.u32.wrap (n : Int) = n := wrap_u32 (by omega) (by omega)
theorem and64 {n : Int} (h0 : 0 ≤ n) (h1 : n < 9223372036854775808) : IntKind.i64.wrap ↑(BitVec.ofInt IntKind.i64.bits n &&& BitVec.ofInt IntKind.i64.bits 255).toNat = n % 256 := by
  obtain ⟨m, rfl⟩ := Int.eq_ofNat_of_zero_le h0
  show IntKind.i64.wrap ↑(BitVec.ofInt 64 (m : Int) &&& BitVec.ofInt 64 255).toNat = _
  rw [and_nat 64 m (by omega) (by omega), wrap64_nat (by omega)]; rfl
theorem and32 {n : Int} (h0 : 0 ≤ n) (h1 : n < 4294967296) : IntKind.u32.wrap ↑(BitVec.ofInt IntKind.u32.bits n &&& BitVec.ofInt IntKind.u32.bits 255).toNat = n % 256 := by
  obtain ⟨m, rfl⟩ := Int.eq_ofNat_of_zero_le h0
  show IntKind.u32.wrap ↑(BitVec.ofInt 32 (m : Int) &&& BitVec.ofInt 32 255).toNat = _
  rw [and_nat 32 m (by omega) (by omega), wrap32_nat (by omega)]; rfl
theorem u8_mod (n : Int) : u8 (n % 256) = u8 n := by unfold u8; rw [Int.emod_emod_of_dvd _ (by decide)]
theorem fdiv_pos (a b : Int) (h : 0 ≤ b) : a.fdiv b = a / b := Int.fdiv_eq_ediv_of_nonneg _ h
end Go.Proofs.YtcmhpjnafkpofaaDoor
