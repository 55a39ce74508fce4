/- The reference's runs: of symbols. -/
import Derived.Test.YtcplpllbinilmaaLab6
set_option linter.unusedVariables false
set_option linter.unusedSimpArgs false
namespace Go.Proofs.Ytcplpllbinilmaa
open Go Go.Am Go.Proofs
attribute [local irreducible] W WL DL WO RoundEnd
set_option maxRecDepth 10000
set_option maxHeartbeats 4000000
set_option linter.unusedVariables false
set_option linter.unusedSimpArgs false
theorem w32_ok (n : Int) : 0 ≤ IntKind.wrap .u32 n ∧ IntKind.wrap .u32 n < 2 ^ 32 := by
  simp [IntKind.wrap, IntKind.bits, IntKind.signed]
  omega
theorem alu_ok (c a b : Int) (ha : 0 ≤ a ∧ a < 2 ^ 32) : 0 ≤ aluF c a b ∧ aluF c a b < 2 ^ 32 := by
  have hl : 0 ≤ a.fdiv (2 ^ min (b.tmod 32).toNat IntKind.u32.bits) ∧ a.fdiv (2 ^ min (b.tmod 32).toNat IntKind.u32.bits) < 2 ^ 32 := by
    have hp : (0 : Int) < 2 ^ min (b.tmod 32).toNat IntKind.u32.bits := Int.pow_pos (by decide)
    rw [Int.fdiv_eq_ediv_of_nonneg _ (by omega)]
    have h1 := Int.ediv_nonneg ha.1 (b := 2 ^ min (b.tmod 32).toNat IntKind.u32.bits) (by omega)
    have h2 := Int.ediv_le_self (2 ^ min (b.tmod 32).toNat IntKind.u32.bits) ha.1
    omega
  unfold aluF andF
  repeat' (first | exact w32_ok _ | exact hl | (generalize (_ || _ : Bool) = q; cases q <;> simp only [cond_true, cond_false]))
theorem word_ok (d : Dat) (k : Int) : 0 ≤ (wordF d k).1 ∧ (wordF d k).1 < 2 ^ 32 := by
  unfold wordF
  cases (!(k.tmod 4 == 0) || decide (k > 60)) with
  | true => exact (by decide : (0 : Int) ≤ 0 ∧ (0 : Int) < 2 ^ 32)
  | false => exact w32_ok _
theorem ck {b : Bool} {x y : Mach × Bool × Bool} (hx : x.1.ok) (hy : y.1.ok) : (bif b then x else y).1.ok := by
  cases b with
  | true => exact hx
  | false => exact hy
theorem plain_ok (m : Mach) (c k : Int) (d : Dat) (hm : m.ok) (hk : 0 ≤ k ∧ k < 2 ^ 32) : (plainF m c k d).1.ok := by
  have h64 : (0 : Int) ≤ 64 ∧ (64 : Int) < 2 ^ 32 := by decide
  have hs : ∀ i v, 0 ≤ v ∧ v < 2 ^ 32 → ∀ j, 0 ≤ setC m.c i v j ∧ setC m.c i v j < 2 ^ 32 := by
    intro i v hv j
    unfold setC
    split
    · exact hv
    · exact hm.2.2 j
  unfold plainF
  repeat' (first
    | exact hm
    | exact ⟨alu_ok _ _ _ hm.1, hm.2.1, hm.2.2⟩
    | exact ⟨hk, hm.2.1, hm.2.2⟩
    | exact ⟨hm.1, hk, hm.2.2⟩
    | exact ⟨h64, hm.2.1, hm.2.2⟩
    | exact ⟨hm.1, h64, hm.2.2⟩
    | exact ⟨w32_ok _, hm.2.1, hm.2.2⟩
    | exact ⟨hm.1, hm.1, hm.2.2⟩
    | exact ⟨hm.2.1, hm.2.1, hm.2.2⟩
    | exact ⟨word_ok d k, hm.2.1, hm.2.2⟩
    | exact ⟨hm.1, hm.2.1, hs _ _ hm.1⟩
    | exact ⟨hm.1, hm.2.1, hs _ _ hm.2.1⟩
    | exact ⟨hm.2.2 _, hm.2.1, hm.2.2⟩
    | exact ⟨hm.1, hm.2.2 _, hm.2.2⟩
    | refine ck ?_ ?_)
theorem seek_ge (label : Int) : ∀ (l : List Sym) (j : Int), 0 ≤ j → 0 ≤ seekF label l j → j ≤ seekF label l j ∧ seekF label l j < j + l.length
  | [], j, h, h' => by simp [seekF] at h'
  | x :: r, j, h, h' => by
    rw [seekF] at h' ⊢
    cases e : x.label == label with
    | true => simp; omega
    | false =>
      simp only [e, Bool.false_eq_true, if_false] at h' ⊢
      have := seek_ge label r (j + 1) (by omega) h'
      simp; omega
theorem place_gt {l : List Sym} {i : Nat} {label : Int} (hi : i < l.length) (h : 0 ≤ placeF l i label) : (i : Int) < placeF l i label ∧ placeF l i label < l.length := by
  have := seek_ge label (l.drop (i + 1)) ((i + 1 : Nat) : Int) (by omega) h
  rw [List.length_drop] at this
  unfold placeF
  omega
theorem good_at {l : List Sym} : ∀ {r : List Sym} {j n : Nat} {x : Sym}, goodF l j r = true → r[n]? = some x → badF l (j + n) x = false
  | [], _, _, _, _, h => by simp at h
  | y :: r, j, n, x, hg, h => by
    rw [goodF, Bool.and_eq_true, Bool.not_eq_true'] at hg
    cases n with
    | zero => simp at h; subst h; exact hg.1
    | succ n =>
      have := good_at hg.2 (by simpa using h)
      rw [show j + (n + 1) = j + 1 + n by omega]; exact this
theorem right_at {l : List Sym} (hr : rightF l = true) {n : Nat} {x : Sym} (h : l[n]? = some x) : badF l n x = false := by
  unfold rightF at hr
  simp only [Bool.and_eq_true] at hr
  have := good_at hr.1.2 h
  simpa using this
/-- a jump that may be leads on -/
theorem ja_goes {l : List Sym} (hr : rightF l = true) {n : Nat} {x : Sym} (h : l[n]? = some x) (hc : x.code = 5) : (n : Int) < nextF l n x.t ∧ nextF l n x.t < l.length := by
  have hb := right_at hr h
  have hn := (List.getElem?_eq_some_iff.1 h).1
  simp only [badF, badT, Bool.or_eq_false_iff] at hb
  have ht := hb.1.2
  simp [hc] at ht
  have h0 : x.t ≠ 0 := ht.2
  unfold nextF
  rw [beq_false_of_ne h0]
  exact place_gt hn (by have := ht.1; omega)
theorem jt_goes {l : List Sym} (hr : rightF l = true) {n : Nat} {x : Sym} (h : l[n]? = some x) (hc : isJumpF x.code = true) : (n : Int) < nextF l n x.t ∧ nextF l n x.t ≤ l.length := by
  have hb := right_at hr h
  have hn := (List.getElem?_eq_some_iff.1 h).1
  simp only [badF, badT, Bool.or_eq_false_iff] at hb
  have ht := hb.1.2
  simp [hc] at ht
  unfold nextF
  cases e : x.t == 0 with
  | true => simp; omega
  | false =>
    have := place_gt (label := x.t) hn (by have := ht.1; simp at e; omega)
    simp; omega
theorem jf_goes {l : List Sym} (hr : rightF l = true) {n : Nat} {x : Sym} (h : l[n]? = some x) (hc : isJumpF x.code = true) : (n : Int) < nextF l n x.f ∧ nextF l n x.f ≤ l.length := by
  have hb := right_at hr h
  have hn := (List.getElem?_eq_some_iff.1 h).1
  simp only [badF, badR, Bool.or_eq_false_iff] at hb
  have ht := hb.2
  simp [hc] at ht
  unfold nextF
  cases e : x.f == 0 with
  | true => simp; omega
  | false =>
    have := place_gt (label := x.f) hn (by simp at e; omega)
    simp; omega
end Go.Proofs.Ytcplpllbinilmaa
