/- A part of a proof: functions of the program, walked over the abstract machine. -/
import Derived.Test.YtceccgnpkelpkaaCons3
set_option linter.unusedVariables false
set_option linter.unusedSimpArgs false
namespace Go.Proofs.Ytceccgnpkelpkaa
open Go Go.Am Go.Proofs
/-! chains of constants, in plain Lean -/
def letters : ByteArray := ⟨#[65, 66, 67, 68, 69, 70, 71, 72, 73, 74, 75, 76]⟩
def nameAt (i : Nat) : ByteArray := letters.extract i (i + 1)
def defAt (i : Nat) (b : Int) : Def := ⟨nameAt i, if i = 0 then .mk 7 ⟨#[]⟩ ⟨#[]⟩ b [] else .mk 8 ⟨#[]⟩ ⟨#[]⟩ 0 [.mk 7 ⟨#[]⟩ ⟨#[]⟩ b [], .mk 5 ⟨#[]⟩ (nameAt (i - 1)) 0 []]⟩
def defsF : Nat → List Int → List Def
  | _, [] => []
  | i, b :: r => defAt i b :: defsF (i + 1) r
def mapF : Nat → List Int → KM
  | _, [] => []
  | i, w :: r => (nameAt i, (w, 0)) :: mapF (i + 1) r
def scanF : Int → List Int → List Int
  | _, [] => []
  | w, b :: r => or64 w b :: scanF (or64 w b) r
theorem name_ne : ∀ i, i < 12 → ∀ j, j < 12 → nameAt i = nameAt j → i = j := by decide +kernel
theorem name_ok : ∀ i, i < 12 → nameF (nameAt i) = true := by decide +kernel
theorem name_size (i : Nat) : (nameAt i).size < 2 ^ 60 := by
  have : (nameAt i).size ≤ 12 := by
    unfold nameAt
    rw [ByteArray.size_extract]
    have : letters.size = 12 := rfl
    omega
  omega
theorem fk_map : ∀ (ws : List Int) (i j k : Nat), k < 12 → i + ws.length ≤ 12 → fk (nameAt k) (mapF i ws) j = if i ≤ k then (ws[k - i]?).map (fun w => (j + (k - i), (w, 0))) else none
  | [], i, j, k, _, _ => by simp [mapF, fk]
  | w :: ws, i, j, k, hk, hl => by
    simp only [List.length_cons] at hl
    rw [mapF, fk]
    by_cases he : k = i
    · subst he; simp
    · rw [if_neg (fun h => he (name_ne k hk i (by omega) h)), fk_map ws (i + 1) (j + 1) k hk (by omega)]
      by_cases hle : i ≤ k
      · rw [if_pos hle, if_pos (by omega)]
        obtain ⟨d, hd⟩ : ∃ d, k - i = d + 1 := ⟨k - i - 1, by omega⟩
        have e : k - (i + 1) = d := by omega
        rw [hd, e, List.getElem?_cons_succ]
        congr 1
        funext x
        have : j + 1 + d = j + (d + 1) := by omega
        rw [this]
      · rw [if_neg hle, if_neg (by omega)]
theorem mapF_snoc : ∀ (ws : List Int) (i : Nat) (w : Int), mapF i (ws ++ [w]) = mapF i ws ++ [(nameAt (i + ws.length), (w, 0))]
  | [], i, w => rfl
  | v :: ws, i, w => by
    show (nameAt i, (v, 0)) :: mapF (i + 1) (ws ++ [w]) = _
    rw [mapF_snoc ws (i + 1) w]
    have : i + 1 + ws.length = i + (v :: ws).length := by simp only [List.length_cons]; omega
    rw [this]; rfl
theorem or64_zero {b : Int} (h0 : 0 ≤ b) (h1 : b < 18446744073709551616) : or64 0 b = b := by
  unfold or64
  have e : BitVec.ofInt IntKind.u64.bits 0 = 0 := rfl
  rw [e]
  have e2 : (0 : BitVec IntKind.u64.bits) ||| BitVec.ofInt IntKind.u64.bits b = BitVec.ofInt IntKind.u64.bits b := BitVec.zero_or
  rw [e2]
  have e3 : ((BitVec.ofInt IntKind.u64.bits b).toNat : Int) = b := by
    rw [BitVec.toNat_ofInt]
    have : (2 ^ IntKind.u64.bits : Int) = 18446744073709551616 := rfl
    have h2 : b % ((2 ^ IntKind.u64.bits : Nat) : Int) = b := Int.emod_eq_of_lt h0 (by show b < 18446744073709551616; exact h1)
    rw [h2]; omega
  rw [e3, wrap_u64 h0 h1]
theorem cof_zero (m : KM) (b : Int) : cofF m (.mk 7 ⟨#[]⟩ ⟨#[]⟩ b []) = (b, 0) := by
  have h : numF ((Ex.mk 7 ⟨#[]⟩ ⟨#[]⟩ b []).size + 1) (.mk 7 ⟨#[]⟩ ⟨#[]⟩ b []) = true := by
    have he : ((⟨#[]⟩ : ByteArray) == ⟨#[]⟩) = true := by decide
    simp [Ex.size, Ex.sizes, numF, Ex.kind, oneF, whatF, he]
  rw [cofF, if_pos h]
  simp [Ex.size, Ex.sizes, cvalF]
theorem cof_pair (m : KM) (b : Int) (nm : ByteArray) (hn : nameF nm = true) : cofF m (.mk 8 ⟨#[]⟩ ⟨#[]⟩ 0 [.mk 7 ⟨#[]⟩ ⟨#[]⟩ b [], .mk 5 ⟨#[]⟩ nm 0 []]) = (match fk nm m 0 with
    | none => (0, 7)
    | some (_, k) => if k.2 = 0 then (or64 b k.1, 0) else k) := by
  have he : ((⟨#[]⟩ : ByteArray) == ⟨#[]⟩) = true := by decide
  have w1 : whatF (.mk 8 ⟨#[]⟩ ⟨#[]⟩ 0 [.mk 7 ⟨#[]⟩ ⟨#[]⟩ b [], .mk 5 ⟨#[]⟩ nm 0 []]) = .pr (.mk 7 ⟨#[]⟩ ⟨#[]⟩ b []) (.mk 5 ⟨#[]⟩ nm 0 []) := by
    simp [whatF, twoF, he]
  have w2 : whatF (.mk 7 ⟨#[]⟩ ⟨#[]⟩ b []) = .num := by simp [whatF, he]
  have w3 : whatF (.mk 5 ⟨#[]⟩ nm 0 []) = .nam := by simp [whatF, he]
  have h : numF ((Ex.mk 8 ⟨#[]⟩ ⟨#[]⟩ 0 [.mk 7 ⟨#[]⟩ ⟨#[]⟩ b [], .mk 5 ⟨#[]⟩ nm 0 []]).size + 1) (.mk 8 ⟨#[]⟩ ⟨#[]⟩ 0 [.mk 7 ⟨#[]⟩ ⟨#[]⟩ b [], .mk 5 ⟨#[]⟩ nm 0 []]) = true := by
    simp only [Ex.size, Ex.sizes, numF, Ex.kind, if_true, w1]
    simp [numF, Ex.kind, oneF, w2, w3, Ex.name, hn]
  rw [cofF, if_pos h]
  simp only [Ex.size, Ex.sizes, cvalF, reduceIte]
  cases fk nm m 0 with
  | none => simp
  | some p => obtain ⟨i, k⟩ := p; simp
/-- the last of what is known -/
def lastW (ws : List Int) : Int := ws.getLast?.getD 0
theorem cof_at (ws : List Int) (b : Int) (hb : 0 ≤ b ∧ b < 18446744073709551616) (hl : ws.length < 12) : cofF (mapF 0 ws) (defAt ws.length b).expr = (or64 (lastW ws) b, 0) := by
  rcases List.eq_nil_or_concat ws with rfl | ⟨vs, w, rfl⟩
  · show cofF [] (.mk 7 ⟨#[]⟩ ⟨#[]⟩ b []) = _
    rw [cof_zero]
    simp only [lastW, List.getLast?_nil, Option.getD_none, or64_zero hb.1 hb.2]
  · rw [List.concat_eq_append] at *
    have hlen : (vs ++ [w]).length = vs.length + 1 := by simp
    rw [hlen] at hl ⊢
    have e : (defAt (vs.length + 1) b).expr = .mk 8 ⟨#[]⟩ ⟨#[]⟩ 0 [.mk 7 ⟨#[]⟩ ⟨#[]⟩ b [], .mk 5 ⟨#[]⟩ (nameAt vs.length) 0 []] := by
      simp [defAt]
    rw [e, cof_pair _ _ _ (name_ok _ (by omega)), fk_map _ 0 0 vs.length (by omega) (by rw [hlen]; omega)]
    simp only [Nat.zero_le, if_true, Nat.sub_zero, Nat.zero_add]
    have : (vs ++ [w])[vs.length]? = some w := by simp
    rw [this]
    simp only [Option.map_some, if_true]
    have : lastW (vs ++ [w]) = w := by simp [lastW]
    rw [this, or64_comm]
theorem table_run : ∀ (pre : List Int) (ws : List Int) (R : List Def), (∀ b ∈ pre, 0 ≤ b ∧ b < 18446744073709551616) → ws.length + pre.length ≤ 12 →
    tableF (mapF 0 ws) ws ws.length (defsF ws.length pre ++ R) = tableF (mapF 0 (ws ++ scanF (lastW ws) pre)) (ws ++ scanF (lastW ws) pre) (ws.length + pre.length) R
  | [], ws, R, _, _ => by simp [defsF, scanF]
  | b :: pre, ws, R, hb, hl => by
    simp only [List.length_cons] at hl
    show tableF (mapF 0 ws) ws ws.length (defAt ws.length b :: (defsF (ws.length + 1) pre ++ R)) = _
    have hf : fk (nameAt ws.length) (mapF 0 ws) 0 = none := by
      rw [fk_map _ 0 0 _ (by omega) (by omega)]; simp
    have hn : (defAt ws.length b).name = nameAt ws.length := rfl
    rw [tableF, hn, hf]
    simp only
    rw [cof_at ws b (hb b (by simp)) (by omega)]
    simp only [if_true]
    have e1 : mapF 0 ws ++ [(nameAt ws.length, (or64 (lastW ws) b, 0))] = mapF 0 (ws ++ [or64 (lastW ws) b]) := by rw [mapF_snoc]; simp
    have e2 : ws.length + 1 = (ws ++ [or64 (lastW ws) b]).length := by simp
    rw [e1, e2, table_run pre (ws ++ [or64 (lastW ws) b]) R (fun x hx => hb x (by simp [hx])) (by simp; omega)]
    have e3 : lastW (ws ++ [or64 (lastW ws) b]) = or64 (lastW ws) b := by simp [lastW]
    rw [e3]
    simp [scanF]; rw [show ws.length + 1 + pre.length = ws.length + (pre.length + 1) by omega]
theorem scan_len : ∀ (w : Int) (l : List Int), (scanF w l).length = l.length
  | _, [] => rfl
  | w, b :: l => by simp [scanF, scan_len]
theorem table_all (bits : List Int) (hb : ∀ b ∈ bits, 0 ≤ b ∧ b < 18446744073709551616) (hl : bits.length ≤ 12) : tableF [] [] 0 (defsF 0 bits) = ((scanF 0 bits, -1), 0) := by
  have := table_run bits [] [] hb (by simpa using hl)
  simp only [List.append_nil, List.nil_append, List.length_nil] at this
  have e : mapF 0 [] = [] := rfl
  rw [e] at this
  rw [this, tableF]; rfl
theorem table_swap (pre : List Int) (a b : Int) (post : List Def) (hb : ∀ b ∈ pre, 0 ≤ b ∧ b < 18446744073709551616) (hl : pre.length + 2 ≤ 12) :
    tableF [] [] 0 (defsF 0 pre ++ defAt (pre.length + 1) b :: defAt pre.length a :: post) = (([], (pre.length : Int)), 7) := by
  have := table_run pre [] (defAt (pre.length + 1) b :: defAt pre.length a :: post) hb (by simp; omega)
  simp only [List.nil_append, List.length_nil] at this
  have e : mapF 0 [] = [] := rfl
  rw [e] at this
  rw [this, tableF]
  have hs := scan_len (lastW []) pre
  generalize scanF (lastW []) pre = ws at *
  have hf : fk (nameAt (pre.length + 1)) (mapF 0 ws) 0 = none := by
    rw [fk_map _ 0 0 _ (by omega) (by omega)]; simp; omega
  have hn : (defAt (pre.length + 1) b).name = nameAt (pre.length + 1) := rfl
  rw [hn, hf]
  have e2 : (defAt (pre.length + 1) b).expr = .mk 8 ⟨#[]⟩ ⟨#[]⟩ 0 [.mk 7 ⟨#[]⟩ ⟨#[]⟩ b [], .mk 5 ⟨#[]⟩ (nameAt pre.length) 0 []] := by
    simp [defAt]
  have hf2 : fk (nameAt pre.length) (mapF 0 ws) 0 = none := by
    rw [fk_map _ 0 0 _ (by omega) (by omega)]; simp; omega
  rw [e2, cof_pair _ _ _ (name_ok _ (by omega)), hf2]
  simp
theorem defs_len : ∀ (i : Nat) (l : List Int), (defsF i l).length = l.length
  | _, [] => rfl
  | i, b :: l => by simp [defsF, defs_len]
theorem defs_append : ∀ (i : Nat) (l m : List Int), defsF i (l ++ m) = defsF i l ++ defsF (i + l.length) m
  | i, [], m => by simp [defsF]
  | i, b :: l, m => by
    show defAt i b :: defsF (i + 1) (l ++ m) = _
    rw [defs_append (i + 1) l m]
    have : i + 1 + l.length = i + (b :: l).length := by simp only [List.length_cons]; omega
    rw [this]; rfl
theorem defAt_nok (i : Nat) (b : Int) : (defAt i b).expr.nok := by
  have hz : (⟨#[]⟩ : ByteArray).size < 2 ^ 60 := by decide
  unfold defAt
  split
  · exact ⟨hz, trivial⟩
  · exact ⟨hz, ⟨hz, trivial⟩, ⟨name_size _, trivial⟩, trivial⟩
theorem defs_nok : ∀ (i : Nat) (l : List Int), ∀ d ∈ defsF i l, d.expr.nok
  | _, [], d, h => by simp [defsF] at h
  | i, b :: l, d, h => by
    rcases List.mem_cons.1 (show d ∈ defAt i b :: defsF (i + 1) l from h) with rfl | h
    · exact defAt_nok i b
    · exact defs_nok (i + 1) l d h
end Go.Proofs.Ytceccgnpkelpkaa
