/- A jump over any number of symbols: the row, and how it runs. -/
import Derived.Test.YtcplpllbinilmaaChkp
set_option linter.unusedVariables false
set_option linter.unusedSimpArgs false
namespace Go.Proofs.Ytcplpllbinilmaa
open Go Go.Am Go.Proofs
set_option maxRecDepth 10000
set_option maxHeartbeats 4000000
set_option linter.unusedVariables false
set_option linter.unusedSimpArgs false
def headS (k f : Int) : List Sym := [⟨0, 0, 0, 32, 0⟩, ⟨0, 1, f, 21, k⟩]
def negS : Sym := ⟨0, 0, 0, 132, 0⟩
def tailS : List Sym := [⟨0, 0, 0, 6, 10⟩, ⟨1, 0, 0, 6, 11⟩, ⟨2, 0, 0, 6, 12⟩]
def farS (k f : Int) (n : Nat) : List Sym := headS k f ++ (List.replicate n negS ++ tailS)
theorem far_len (k f : Int) (n : Nat) : (farS k f n).length = n + 5 := by simp [farS, headS, tailS]
theorem far_0 (k f : Int) (n : Nat) : (farS k f n)[0]? = some ⟨0, 0, 0, 32, 0⟩ := rfl
theorem far_1 (k f : Int) (n : Nat) : (farS k f n)[1]? = some ⟨0, 1, f, 21, k⟩ := rfl
theorem far_neg (k f : Int) (n i : Nat) (h : i < n) : (farS k f n)[2 + i]? = some negS := by
  unfold farS
  rw [List.getElem?_append_right (by show 2 ≤ 2 + i; omega), show 2 + i - (headS k f).length = i from by show 2 + i - 2 = i; omega, List.getElem?_append_left (by rw [List.length_replicate]; exact h), List.getElem?_replicate, if_pos h]
theorem far_tail (k f : Int) (n j : Nat) : (farS k f n)[2 + n + j]? = tailS[j]? := by
  unfold farS
  rw [List.getElem?_append_right (by show 2 ≤ 2 + n + j; omega), show 2 + n + j - (headS k f).length = n + j from by show 2 + n + j - 2 = n + j; omega, List.getElem?_append_right (by rw [List.length_replicate]; omega), List.length_replicate, show n + j - n = j from by omega]
theorem seek_rep (label : Int) (h : label ≠ 0) (r : List Sym) : ∀ (n : Nat) (j : Int), seekF label (List.replicate n negS ++ r) j = seekF label r (j + n)
  | 0, j => by simp
  | n + 1, j => by
    rw [List.replicate_succ, List.cons_append, seekF]
    have : (negS.label == label) = false := by rw [beq_eq_false_iff_ne]; exact fun e => h e.symm
    rw [this]
    simp only [Bool.false_eq_true, if_false]
    rw [seek_rep label h r n (j + 1)]
    congr 1; omega
theorem far_drop (k f : Int) (n : Nat) : (farS k f n).drop 2 = List.replicate n negS ++ tailS := rfl
theorem far_p1 (k f : Int) (n : Nat) : placeF (farS k f n) 1 1 = (n : Int) + 3 := by
  unfold placeF
  rw [far_drop, seek_rep 1 (by decide)]
  show seekF 1 tailS (2 + (n : Int)) = _
  unfold tailS
  rw [seekF, seekF]
  simp only [show ((0 : Int) == 1) = false from rfl, Bool.false_eq_true, if_false, beq_self_eq_true, if_true]
  omega
theorem far_p2 (k f : Int) (n : Nat) : placeF (farS k f n) 1 2 = (n : Int) + 4 := by
  unfold placeF
  rw [far_drop, seek_rep 2 (by decide)]
  show seekF 2 tailS (2 + (n : Int)) = _
  unfold tailS
  rw [seekF, seekF, seekF]
  simp only [show ((0 : Int) == 2) = false from rfl, show ((1 : Int) == 2) = false from rfl, Bool.false_eq_true, if_false, beq_self_eq_true, if_true]
  omega
theorem good_of (l : List Sym) : ∀ (r : List Sym) (j : Nat), (∀ (n : Nat) (x : Sym), r[n]? = some x → badF l (j + n) x = false) → goodF l j r = true
  | [], _, _ => rfl
  | x :: r, j, h => by
    have h0 := h 0 x rfl
    rw [Nat.add_zero] at h0
    rw [goodF, h0]
    rw [good_of l r (j + 1) fun n y hy => by
      have := h (n + 1) y (by simpa using hy)
      rwa [show j + (n + 1) = j + 1 + n from by omega] at this]
    rfl
theorem dup_0 (l : List Sym) : dupF 0 l = false := by
  unfold dupF
  rw [show decide ((0 : Int) > 0) = false from rfl]
  simp
theorem far_take (k f : Int) (n j : Nat) (hj : j ≤ 3) : (farS k f n).take (2 + n + j) = headS k f ++ (List.replicate n negS ++ tailS.take j) := by
  unfold farS
  have h1 : (headS k f).length = 2 := rfl
  rw [List.take_append, List.take_of_length_le (by rw [h1]; omega), h1, show 2 + n + j - 2 = n + j from by omega, List.take_append, List.take_of_length_le (by rw [List.length_replicate]; omega), List.length_replicate, show n + j - n = j from by omega]
theorem dup_mid (label k f : Int) (n : Nat) (hl : label ≠ 0) (t : List Sym) (ht : dupF label t = false) : dupF label (headS k f ++ (List.replicate n negS ++ t)) = false := by
  have hb : ((0 : Int) == label) = false := by rw [beq_eq_false_iff_ne]; exact fun e => hl e.symm
  unfold dupF at ht ⊢
  rw [List.any_append, List.any_append, ht]
  have h1 : (headS k f).any (fun y => decide (label > 0) && (y.label == label)) = false := by
    show ((decide (label > 0) && ((0 : Int) == label)) || ((decide (label > 0) && ((0 : Int) == label)) || false)) = false
    rw [hb]; simp
  have h2 : (List.replicate n negS).any (fun y => decide (label > 0) && (y.label == label)) = false := by
    rw [Bool.eq_false_iff]
    intro h
    rw [List.any_eq_true] at h
    obtain ⟨y, hy, h⟩ := h
    rw [List.mem_replicate] at hy
    rw [hy.2] at h
    rw [show negS.label = 0 from rfl, hb] at h
    simp at h
  rw [h1, h2]; rfl
theorem far_right (k f : Int) (n : Nat) (hf : f = 0 ∨ f = 2) : rightF (farS k f n) = true := by
  unfold rightF
  have hlast : lastF (farS k f n) = true := by
    unfold lastF
    have : (farS k f n).getLast? = some ⟨2, 0, 0, 6, 12⟩ := by
      rw [List.getLast?_eq_getElem?, far_len, show n + 5 - 1 = 2 + n + 2 from by omega, far_tail]; rfl
    rw [this]; rfl
  rw [hlast, show (farS k f n).isEmpty = false from rfl]
  simp only [Bool.not_false, Bool.true_and, Bool.and_true]
  refine good_of _ _ 0 fun i x hx => ?_
  rw [Nat.zero_add]
  have hi := (List.getElem?_eq_some_iff.1 hx).1
  rw [far_len] at hi
  rcases i with _ | _ | i
  · rw [far_0] at hx
    injection hx with hx; subst hx
    unfold badF
    rw [dup_0]
    rfl
  · rw [show 0 + 1 = 1 from rfl] at hx ⊢
    rw [far_1] at hx
    injection hx with hx; subst hx
    unfold badF badT badR
    simp only
    rw [dup_0, far_p1]
    have e1 : decide ((n : Int) + 3 < 0) = false := by rw [decide_eq_false_iff_not]; omega
    rw [e1]
    rcases hf with rfl | rfl
    · rfl
    · rw [far_p2]
      have e2 : decide ((n : Int) + 4 < 0) = false := by rw [decide_eq_false_iff_not]; omega
      rw [e2]
      rfl
  · by_cases h : i < n
    · rw [show i + 1 + 1 = 2 + i from by omega, far_neg k f n i h] at hx
      injection hx with hx; subst hx
      unfold badF negS
      rw [dup_0]
      simp only [badT, badR]
      rfl
    · obtain ⟨j, rfl⟩ : ∃ j, i = n + j := ⟨i - n, by omega⟩
      rw [show n + j + 1 + 1 = 2 + n + j from by omega] at hx ⊢
      rw [far_tail] at hx
      rcases j with _ | _ | _ | j
      · simp only [tailS, List.getElem?_cons_zero, Option.some.injEq] at hx
        subst hx
        unfold badF
        simp only [badT, badR]
        rw [dup_0]
        rfl
      · simp only [tailS, Nat.zero_add, List.getElem?_cons_succ, List.getElem?_cons_zero, Option.some.injEq] at hx
        subst hx
        unfold badF
        simp only [badT, badR]
        rw [far_take k f n _ (by omega), dup_mid 1 k f n (by decide) _ (by decide)]
        rfl
      · simp only [tailS, Nat.zero_add, List.getElem?_cons_succ, List.getElem?_cons_zero, Option.some.injEq] at hx
        subst hx
        unfold badF
        simp only [badT, badR]
        rw [far_take k f n _ (by omega), dup_mid 2 k f n (by decide) _ (by decide)]
        rfl
      · simp [tailS] at hx
/-! how it runs -/
theorem getF_add (bs : List UInt8) (a : Nat) : ∀ (s : Nat) (n : Int), getF bs a s n = getF bs a s n := fun _ _ => rfl
theorem word_nr (d : Dat) (h : 0 ≤ d.nr ∧ d.nr < 2 ^ 32) : wordF d 0 = (d.nr, true) := by
  have hg : getF d.bytes (0 : Int).toNat 4 0 = d.nr := by
    have b0 : d.bytes[0]? = some (u8 (d.nr / 2 ^ (8 * 0))) := rfl
    have b1 : d.bytes[1]? = some (u8 (d.nr / 2 ^ (8 * (0 + 1)))) := rfl
    have b2 : d.bytes[2]? = some (u8 (d.nr / 2 ^ (8 * (0 + 1 + 1)))) := rfl
    have b3 : d.bytes[3]? = some (u8 (d.nr / 2 ^ (8 * (0 + 1 + 1 + 1)))) := rfl
    show (((0 * 256 + (((d.bytes[3]?).getD 0).toNat : Int)) * 256 + (((d.bytes[2]?).getD 0).toNat : Int)) * 256 + (((d.bytes[1]?).getD 0).toNat : Int)) * 256 + (((d.bytes[0]?).getD 0).toNat : Int) = d.nr
    rw [b0, b1, b2, b3]
    simp only [Option.getD_some]
    rw [u8_toNat, u8_toNat, u8_toNat, u8_toNat]
    omega
  unfold wordF
  rw [hg, wrap_u32 h.1 (by omega)]
  rfl
theorem neg_run (k f : Int) (n : Nat) (d : Dat) : ∀ (c i G : Nat) (m : Mach), i + c = n → c < G → runSyms (farS k f n) d G (2 + i) m = (10, true)
  | 0, i, G, m, h, hG => by
    obtain ⟨G, rfl⟩ : ∃ g, G = g + 1 := ⟨G - 1, by omega⟩
    have : i = n := by omega
    subst this
    rw [runSyms, show 2 + i = 2 + i + 0 from rfl, far_tail]; rfl
  | c + 1, i, G, m, h, hG => by
    obtain ⟨G, rfl⟩ : ∃ g, G = g + 1 := ⟨G - 1, by omega⟩
    rw [runSyms, far_neg k f n i (by omega)]
    show runSyms (farS k f n) d G (2 + i + 1) _ = _
    rw [show 2 + i + 1 = 2 + (i + 1) from by omega]
    exact neg_run k f n d c (i + 1) G _ (by omega) (by omega)
theorem far_eq (k f : Int) (n : Nat) (d : Dat) (hd : 0 ≤ d.nr ∧ d.nr < 2 ^ 32) (h : d.nr = k) : runSyms (farS k f n) d (n + 6) 0 Mach.zero = (11, true) := by
  rw [show n + 6 = n + 5 + 1 from rfl, runSyms, far_0]
  show (bif (plainF Mach.zero 32 0 d).2.2 then ((0 : Int), true) else bif !(plainF Mach.zero 32 0 d).2.1 then (0, false) else runSyms (farS k f n) d (n + 5) 1 (plainF Mach.zero 32 0 d).1) = _
  have hp : plainF Mach.zero 32 0 d = (⟨(wordF d 0).1, 0, fun _ => 0⟩, (wordF d 0).2, false) := rfl
  rw [hp, word_nr d hd]
  show runSyms (farS k f n) d (n + 4 + 1) 1 ⟨d.nr, 0, fun _ => 0⟩ = _
  rw [runSyms, far_1]
  show (bif jumpsF 21 d.nr (withF ⟨d.nr, 0, fun _ => 0⟩ 21 k) then runSyms (farS k f n) d (n + 4) (nextF (farS k f n) 1 1).toNat _ else runSyms (farS k f n) d (n + 4) (nextF (farS k f n) 1 f).toNat _) = _
  have hj : jumpsF 21 d.nr (withF ⟨d.nr, 0, fun _ => 0⟩ 21 k) = (d.nr == k) := rfl
  rw [hj, h]
  simp only [beq_self_eq_true, cond_true]
  have hn : nextF (farS k f n) 1 1 = (n : Int) + 3 := far_p1 k f n
  rw [hn, show ((n : Int) + 3).toNat = 2 + n + 1 from by omega, show n + 4 = n + 3 + 1 from rfl, runSyms, far_tail]; rfl
theorem far_ne (k f : Int) (n : Nat) (d : Dat) (hd : 0 ≤ d.nr ∧ d.nr < 2 ^ 32) (h : d.nr ≠ k) (hf : f = 0 ∨ f = 2) : runSyms (farS k f n) d (n + 6) 0 Mach.zero = (if f = 2 then 12 else 10, true) := by
  rw [show n + 6 = n + 5 + 1 from rfl, runSyms, far_0]
  show (bif (plainF Mach.zero 32 0 d).2.2 then ((0 : Int), true) else bif !(plainF Mach.zero 32 0 d).2.1 then (0, false) else runSyms (farS k f n) d (n + 5) 1 (plainF Mach.zero 32 0 d).1) = _
  have hp : plainF Mach.zero 32 0 d = (⟨(wordF d 0).1, 0, fun _ => 0⟩, (wordF d 0).2, false) := rfl
  rw [hp, word_nr d hd]
  show runSyms (farS k f n) d (n + 4 + 1) 1 ⟨d.nr, 0, fun _ => 0⟩ = _
  rw [runSyms, far_1]
  show (bif jumpsF 21 d.nr (withF ⟨d.nr, 0, fun _ => 0⟩ 21 k) then runSyms (farS k f n) d (n + 4) (nextF (farS k f n) 1 1).toNat _ else runSyms (farS k f n) d (n + 4) (nextF (farS k f n) 1 f).toNat _) = _
  have hj : jumpsF 21 d.nr (withF ⟨d.nr, 0, fun _ => 0⟩ 21 k) = (d.nr == k) := rfl
  rw [hj, show (d.nr == k) = false from by rw [beq_eq_false_iff_ne]; exact h]
  simp only [cond_false]
  rcases hf with rfl | rfl
  · have hn : nextF (farS k 0 n) 1 0 = 2 := rfl
    rw [hn]
    exact neg_run k 0 n d n 0 (n + 4) _ (by omega) (by omega)
  · have hn : nextF (farS k 2 n) 1 2 = (n : Int) + 4 := far_p2 k 2 n
    rw [hn, show ((n : Int) + 4).toNat = 2 + n + 2 from by omega, show n + 4 = n + 3 + 1 from rfl, runSyms, far_tail]; rfl
theorem far_k (k f : Int) (n : Nat) (hk : 0 ≤ k ∧ k < 2 ^ 32) : ∀ x ∈ farS k f n, 0 ≤ x.k ∧ x.k < 2 ^ 32 := by
  intro x hx
  unfold farS at hx
  rcases List.mem_append.1 hx with hx | hx
  · simp only [headS, List.mem_cons, List.not_mem_nil, or_false] at hx
    rcases hx with rfl | rfl
    · decide
    · exact hk
  · rcases List.mem_append.1 hx with hx | hx
    · rw [List.mem_replicate] at hx
      rw [hx.2]; decide
    · simp only [tailS, List.mem_cons, List.not_mem_nil, or_false] at hx
      rcases hx with rfl | rfl | rfl <;> decide
theorem far_sym (k f : Int) (n : Nat) : ∀ x ∈ farS k f n, symB x = true := by
  intro x hx
  unfold farS at hx
  rcases List.mem_append.1 hx with hx | hx
  · simp only [headS, List.mem_cons, List.not_mem_nil, or_false] at hx
    rcases hx with rfl | rfl
    · decide
    · rfl
  · rcases List.mem_append.1 hx with hx | hx
    · rw [List.mem_replicate] at hx
      rw [hx.2]; decide
    · simp only [tailS, List.mem_cons, List.not_mem_nil, or_false] at hx
      rcases hx with rfl | rfl | rfl <;> decide
end Go.Proofs.Ytcplpllbinilmaa
