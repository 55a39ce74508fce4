/- What is typed: numbers, symbols, data; the word of data that is a number. -/
import Derived.Test.YtcplpllbinilmaaLab8
import Derived.Test.YtcplpllbinilmaaTy0
set_option linter.unusedVariables false
set_option linter.unusedSimpArgs false
namespace Go.Proofs.Ytcplpllbinilmaa
open Go Go.Am Go.Proofs
set_option maxRecDepth 100000
set_option maxHeartbeats 4000000
set_option linter.unusedVariables false
set_option linter.unusedSimpArgs false
theorem u32_typed {xs : List D} (h : Typed Try.prog 23 xs) : ∃ n : Int, xs = [.sc (.int .u32 n)] ∧ 0 ≤ n ∧ n < 2 ^ 32 := by
  obtain ⟨n, rfl, w⟩ := h.int_inv Try.underlying23
  exact ⟨n, rfl, u32_wf w⟩
theorem u64_typed {xs : List D} (h : Typed Try.prog 24 xs) : ∃ n : Int, xs = [.sc (.int .u64 n)] ∧ 0 ≤ n ∧ n < 2 ^ 64 := by
  obtain ⟨n, rfl, w⟩ := h.int_inv Try.underlying24
  exact ⟨n, rfl, u64_wf w⟩
theorem arr_inv {P : Program} {t e : TypeId} {n : Nat} {xs : List D} (h : Typed P t xs) (hu : P.underlying t = some (.array n e)) : ∃ xss : List (List D), xs = xss.flatten ∧ xss.length = n ∧ ∀ ys ∈ xss, Typed P e ys := by
  cases h with
  | array _ n' e' xss h' hn hx => rw [hu] at h'; injection h' with h'; injection h' with h1 h2; subst h1; subst h2; exact ⟨xss, rfl, hn, hx⟩
  | _ => simp_all
theorem sym_typed {xs : List D} (h : Typed Try.prog 41 xs) : ∃ x : Sym, xs = x.row ∧ 0 ≤ x.k ∧ x.k < 2 ^ 32 := by
  obtain ⟨xss, rfl, hn, hf⟩ := h.struct_inv Try.underlying41
  rcases xss with _ | ⟨a, _ | ⟨b, _ | ⟨c, _ | ⟨d, _ | ⟨e, _ | ⟨g, r⟩⟩⟩⟩⟩⟩
  all_goals try (simp at hn; done)
  obtain ⟨n0, rfl, _⟩ := (hf 0 _ a rfl rfl).int_inv Try.underlying3
  obtain ⟨n1, rfl, _⟩ := (hf 1 _ b rfl rfl).int_inv Try.underlying3
  obtain ⟨n2, rfl, _⟩ := (hf 2 _ c rfl rfl).int_inv Try.underlying3
  obtain ⟨n3, rfl, _⟩ := (hf 3 _ d rfl rfl).int_inv Try.underlying3
  obtain ⟨n4, rfl, h4⟩ := u32_typed (hf 4 _ e rfl rfl)
  exact ⟨⟨n0, n1, n2, n3, n4⟩, rfl, h4⟩
theorem syms_typed {xs : List D} (h : Typed Try.prog 22 xs) : ∃ l : List Sym, xs = [.list (l.map Sym.row)] ∧ (∀ x ∈ l, 0 ≤ x.k ∧ x.k < 2 ^ 32) ∧ l.length < 2 ^ 45 := by
  obtain ⟨rows, rfl, hr, hs⟩ := h.slice_inv Try.underlying22
  obtain ⟨l, rfl, hl⟩ := list_typed (fun _ _ h => sym_typed h) hr
  have hb : Try.prog.bytesOf 41 = 40 := by kernel_rfl
  rw [hb, List.length_map] at hs
  exact ⟨l, rfl, hl, by have : reachBytes = 140737488351232 := rfl; omega⟩
theorem data_typed {xs : List D} (h : Typed Try.prog 27 xs) : ∃ d : Dat, xs = d.row ∧ d.ok := by
  obtain ⟨xss, rfl, hn, hf⟩ := h.struct_inv Try.underlying27
  rcases xss with _ | ⟨a, _ | ⟨b, _ | ⟨c, _ | ⟨d, _ | ⟨e, r⟩⟩⟩⟩⟩
  all_goals try (simp at hn; done)
  obtain ⟨n0, rfl, h0⟩ := u32_typed (hf 0 _ a rfl rfl)
  obtain ⟨n1, rfl, h1⟩ := u32_typed (hf 1 _ b rfl rfl)
  obtain ⟨n2, rfl, h2⟩ := u64_typed (hf 2 _ c rfl rfl)
  obtain ⟨yss, rfl, hm, hg⟩ := arr_inv (hf 3 _ d rfl rfl) Try.underlying25
  rcases yss with _ | ⟨y0, _ | ⟨y1, _ | ⟨y2, _ | ⟨y3, _ | ⟨y4, _ | ⟨y5, _ | ⟨y6, r⟩⟩⟩⟩⟩⟩⟩
  all_goals try (simp at hm; done)
  obtain ⟨m0, rfl, g0⟩ := u64_typed (hg y0 (by simp))
  obtain ⟨m1, rfl, g1⟩ := u64_typed (hg y1 (by simp))
  obtain ⟨m2, rfl, g2⟩ := u64_typed (hg y2 (by simp))
  obtain ⟨m3, rfl, g3⟩ := u64_typed (hg y3 (by simp))
  obtain ⟨m4, rfl, g4⟩ := u64_typed (hg y4 (by simp))
  obtain ⟨m5, rfl, g5⟩ := u64_typed (hg y5 (by simp))
  exact ⟨⟨n0, n1, n2, m0, m1, m2, m3, m4, m5⟩, rfl, h0, h1, h2, g0, g1, g2, g3, g4, g5⟩
theorem word_nr (d : Dat) (h : 0 ≤ d.nr ∧ d.nr < 2 ^ 32) : wordF d 0 = (d.nr, true) := by
  have hg : getF d.bytes (0 : Int).toNat 4 0 = d.nr := by
    have b0 : d.bytes[0]? = some (u8 (d.nr / 2 ^ (8 * 0))) := rfl
    have b1 : d.bytes[1]? = some (u8 (d.nr / 2 ^ (8 * (0 + 1)))) := rfl
    have b2 : d.bytes[2]? = some (u8 (d.nr / 2 ^ (8 * (0 + 1 + 1)))) := rfl
    have b3 : d.bytes[3]? = some (u8 (d.nr / 2 ^ (8 * (0 + 1 + 1 + 1)))) := rfl
    show (((0 * 256 + (((d.bytes[3]?).getD 0).toNat : Int)) * 256 + (((d.bytes[2]?).getD 0).toNat : Int)) * 256 + (((d.bytes[1]?).getD 0).toNat : Int)) * 256 + (((d.bytes[0]?).getD 0).toNat : Int) = d.nr
    rw [b0, b1, b2, b3]
    simp only [Option.getD_some]
    rw [u8_toNat, u8_toNat, u8_toNat, u8_toNat]
    omega
  unfold wordF
  rw [hg, wrap_u32 h.1 (by omega)]
  rfl
end Go.Proofs.Ytcplpllbinilmaa
