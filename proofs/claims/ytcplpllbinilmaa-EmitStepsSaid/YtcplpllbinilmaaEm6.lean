/- Spans that may be: what follows for the code of them. -/
import Derived.Test.YtcplpllbinilmaaEmA
import Derived.Test.YtcplpllbinilmaaRspA
import Derived.Test.YtcplpllbinilmaaTyd
import Derived.Test.YtcplpllbinilmaaWrA
set_option linter.unusedVariables false
set_option linter.unusedSimpArgs false
namespace Go.Proofs.Ytcplpllbinilmaa
open Go Go.Am Go.Proofs
set_option maxRecDepth 10000
set_option maxHeartbeats 4000000
set_option linter.unusedVariables false
set_option linter.unusedSimpArgs false
def Half.rng (h : Half) : Prop := (0 ≤ h.mask ∧ h.mask < 2 ^ 32) ∧ (0 ≤ h.value ∧ h.value < 2 ^ 32)
def Span.rng (x : Span) : Prop := ∀ s ∈ x.steps, ∀ c ∈ s.clauses, ∀ h ∈ c, h.rng
theorem half_fit {h : Half} (ho : halfOk h = true) (hr : h.rng) : h.fit := by
  unfold halfOk mayF at ho
  rw [Bool.and_eq_true, Bool.and_eq_true, Bool.and_eq_true] at ho
  obtain ⟨h1, h2, h3, h4⟩ := ho
  rw [decide_eq_true_eq] at h1 h2 h3 h4
  exact ⟨⟨h1, h2⟩, ⟨h3, h4⟩, hr⟩
theorem span_fit {x : Span} (ho : spanOk x = true) (hr : x.rng) : x.fit := by
  unfold spanOk at ho
  rw [Bool.and_eq_true, List.all_eq_true] at ho
  intro s hs c hc h hh
  have h1 := ho.1 s hs
  unfold stepOk at h1
  rw [Bool.and_eq_true, List.all_eq_true] at h1
  have h2 := h1.1 c hc
  rw [List.all_eq_true] at h2
  exact half_fit (h2 h hh) (hr s hs c hc h hh)
theorem ok_cons {n : Int} {x : Span} {r : List Span} (h : spansOk n (x :: r) = true) : x.lo = n ∧ x.lo ≤ x.hi ∧ spanOk x = true ∧ spansOk (x.hi + 1) r = true := by
  rw [spansOk] at h
  cases h1 : x.lo == n with
  | false => rw [h1] at h; cases h
  | true =>
    rw [h1] at h
    cases h2 : decide (x.hi < x.lo) with
    | true => rw [h2] at h; cases h
    | false =>
      rw [h2] at h
      cases h3 : spanOk x with
      | false => rw [h3] at h; cases h
      | true =>
        rw [h3] at h
        rw [beq_iff_eq] at h1
        rw [decide_eq_false_iff_not] at h2
        exact ⟨h1, by omega, rfl, h⟩
theorem ok_all : ∀ (l : List Span) (n : Int), spansOk n l = true → (∀ x ∈ l, n ≤ x.lo ∧ x.lo ≤ x.hi ∧ spanOk x = true) ∧ (l.Pairwise fun a b => a.hi < b.lo) ∧ ∀ m, n ≤ m → m < 2 ^ 32 → ∃ x ∈ l, x.lo ≤ m ∧ m ≤ x.hi
  | [], n, h => by
    rw [spansOk, beq_iff_eq] at h
    exact ⟨fun x hx => (by cases hx), .nil, fun m h1 h2 => (by omega)⟩
  | x :: r, n, h => by
    obtain ⟨h1, h2, h3, h4⟩ := ok_cons h
    obtain ⟨i1, i2, i3⟩ := ok_all r _ h4
    refine ⟨fun y hy => ?_, .cons (fun y hy => by have := i1 y hy; omega) i2, fun m hm hm2 => ?_⟩
    · rcases List.mem_cons.1 hy with rfl | hy
      · exact ⟨by omega, h2, h3⟩
      · have := i1 y hy
        exact ⟨by omega, this.2⟩
    · by_cases hc : m ≤ x.hi
      · exact ⟨x, by simp, by omega, hc⟩
      · obtain ⟨y, hy, hz⟩ := i3 m (by omega) hm2
        exact ⟨y, by simp [hy], hz⟩
theorem ok_sort {l : List Span} (h : spansOk 0 l = true) : sortP l := ⟨fun x hx => ((ok_all l 0 h).1 x hx).2.1, (ok_all l 0 h).2.1⟩
theorem ok_ne {l : List Span} (h : spansOk 0 l = true) : l ≠ [] := by
  intro e; rw [e] at h; exact absurd h (by decide)
theorem ok_fit {l : List Span} (h : spansOk 0 l = true) (hr : ∀ x ∈ l, x.rng) : ∀ x ∈ l, x.fit := fun x hx => span_fit ((ok_all l 0 h).1 x hx).2.2 (hr x hx)
theorem word_arch (d : Dat) (h : 0 ≤ d.arch ∧ d.arch < 2 ^ 32) : wordF d 4 = (d.arch, true) := by
  have hg : getF d.bytes (4 : Int).toNat 4 0 = d.arch := by
    have b0 : d.bytes[4]? = some (u8 (d.arch / 2 ^ (8 * 0))) := rfl
    have b1 : d.bytes[5]? = some (u8 (d.arch / 2 ^ (8 * (0 + 1)))) := rfl
    have b2 : d.bytes[6]? = some (u8 (d.arch / 2 ^ (8 * (0 + 1 + 1)))) := rfl
    have b3 : d.bytes[7]? = some (u8 (d.arch / 2 ^ (8 * (0 + 1 + 1 + 1)))) := rfl
    show (((0 * 256 + (((d.bytes[7]?).getD 0).toNat : Int)) * 256 + (((d.bytes[6]?).getD 0).toNat : Int)) * 256 + (((d.bytes[5]?).getD 0).toNat : Int)) * 256 + (((d.bytes[4]?).getD 0).toNat : Int) = d.arch
    rw [b0, b1, b2, b3]
    simp only [Option.getD_some]
    rw [u8_toNat, u8_toNat, u8_toNat, u8_toNat]
    omega
  unfold wordF
  rw [hg, wrap_u32 h.1 (by omega)]
  rfl
/-! data of another architecture -/
theorem code_other (d : Dat) (hw4 : wordF d 4 = (d.arch, true)) (v : Act → Int) (arch kill : Int) (l : List Span) (hne : (d.arch == arch) = false) (m : Mach) :
    val d false (codeI v arch kill l) m = (kill, true) := by
  unfold codeI
  rw [val_sym]
  have hp : plainF m 32 4 d = (⟨d.arch, m.x, m.c⟩, true, false) := by
    have : plainF m 32 4 d = (⟨(wordF d 4).1, m.x, m.c⟩, (wordF d 4).2, false) := rfl
    rw [this, hw4]
  show (bif (plainF m 32 4 d).2.2 then ((0 : Int), true) else bif !(plainF m 32 4 d).2.1 then (0, false) else val d false _ (plainF m 32 4 d).1) = _
  rw [hp]
  show val d false (.sym ⟨0, 1, 0, 21, arch⟩ :: .sym (retS kill) :: .lab 1 :: .sym (ldS 0) :: searchI v l.length l 1) ⟨d.arch, m.x, m.c⟩ = _
  rw [val_jmp d false ⟨0, 1, 0, 21, arch⟩ _ _ rfl]
  have hj : jumpsF 21 d.arch (withF ⟨d.arch, m.x, m.c⟩ 21 arch) = (d.arch == arch) := rfl
  show (bif jumpsF 21 d.arch (withF ⟨d.arch, m.x, m.c⟩ 21 arch) then val d true (.sym (ldS 0) :: searchI v l.length l 1) ⟨d.arch, m.x, m.c⟩ else (kill, true)) = _
  rw [hj, hne]
  rfl
/-! the numbers in the code -/
def kU (x : Sym) : Prop := 0 ≤ x.k ∧ x.k < 2 ^ 32
def kI : Item → Prop
  | .lab _ => True
  | .sym x => kU x
theorem asm_k : ∀ (I : List Item) (p : Int), (∀ i ∈ I, kI i) → ∀ x ∈ asm p I, kU x
  | [], p, _, x, hx => by cases hx
  | .lab n :: r, p, h, x, hx => by
    have ih := asm_k r n fun i hi => h i (by simp [hi])
    have hx : x ∈ (bif p == 0 then asm n r else txaS.at_ p :: asm n r) := hx
    cases hp : p == 0 with
    | true => rw [hp] at hx; exact ih x hx
    | false =>
      rw [hp] at hx
      rcases List.mem_cons.1 (show x ∈ txaS.at_ p :: asm n r from hx) with rfl | hx
      · exact ⟨Int.le_refl 0, show (0 : Int) < 2 ^ 32 by decide⟩
      · exact ih x hx
  | .sym y :: r, p, h, x, hx => by
    have ih := asm_k r 0 fun i hi => h i (by simp [hi])
    rcases List.mem_cons.1 (show x ∈ y.at_ p :: asm 0 r from hx) with rfl | hx
    · exact (h (.sym y) (by simp) : kU y)
    · exact ih x hx
theorem actK_u (a : Act) : 0 ≤ actK a ∧ actK a < 2 ^ 32 := by
  unfold actK
  cases h : actN a.kind a.data with
  | none => exact ⟨Int.le_refl 0, by decide⟩
  | some v =>
    have := actN_some h
    show 0 ≤ v ∧ v < 2 ^ 32
    omega
theorem test_k (h : Half) (hf : h.fit) (yes no : Int) : ∀ i ∈ testI h yes no, kI i := by
  obtain ⟨⟨a1, a2⟩, _, hm, hv⟩ := hf
  intro i hi
  unfold testI maskI at hi
  have ho : kU (ldS (offF h)) := by
    show 0 ≤ offF h ∧ offF h < 2 ^ 32
    unfold offF
    cases h.high <;> simp only [cond_true, cond_false] <;> omega
  rcases List.mem_cons.1 hi with rfl | hi
  · exact ho
  · rcases List.mem_append.1 hi with hi | hi
    · cases hb : h.mask == 4294967295 with
      | true => rw [hb] at hi; cases hi
      | false =>
        rw [hb] at hi
        rcases List.mem_singleton.1 hi with rfl
        exact hm
    · rcases List.mem_singleton.1 hi with rfl
      exact hv
theorem halves_k (yes no next : Int) : ∀ l : List Half, (∀ h ∈ l, h.fit) → ∀ i ∈ halvesI yes no next l, kI i
  | [], _, i, hi => by cases hi
  | [h], hf, i, hi => test_k h (hf h (by simp)) _ _ i hi
  | h :: g :: r, hf, i, hi => by
    rcases List.mem_append.1 (show i ∈ testI h 0 no ++ halvesI yes no next (g :: r) from hi) with hi | hi
    · exact test_k h (hf h (by simp)) _ _ i hi
    · exact halves_k yes no next (g :: r) (fun x hx => hf x (by simp [hx])) i hi
theorem clause_k (l : List Half) (hf : ∀ h ∈ l, h.fit) (yes no next : Int) : ∀ i ∈ clauseI l yes no next, kI i := by
  intro i hi
  unfold clauseI at hi
  rcases List.mem_append.1 hi with hi | hi
  · cases hb : l.isEmpty && !(yes == 0) with
    | false => rw [hb] at hi; cases hi
    | true =>
      rw [hb] at hi
      rcases List.mem_singleton.1 hi with rfl
      exact ⟨Int.le_refl 0, show (0 : Int) < 2 ^ 32 by decide⟩
  · exact halves_k yes no next l hf i hi
theorem clauses_k (act en : Int) : ∀ (l : List (List Half)) (c : Int), (∀ x ∈ l, ∀ h ∈ x, h.fit) → ∀ i ∈ clausesI act en c l, kI i
  | [], c, _, i, hi => by cases hi
  | [l], c, hf, i, hi => clause_k l (hf l (by simp)) _ _ _ i hi
  | l :: g :: r, c, hf, i, hi => by
    rcases List.mem_append.1 (show i ∈ clauseI l act (c + 1) (c + 1) ++ .lab (c + 1) :: clausesI act en (c + 1) (g :: r) from hi) with hi | hi
    · exact clause_k l (hf l (by simp)) _ _ _ i hi
    · rcases List.mem_cons.1 hi with rfl | hi
      · trivial
      · exact clauses_k act en (g :: r) (c + 1) (fun x hx => hf x (by simp [hx])) i hi
theorem step_k (s : Stp) (hs : s.fit) (n : Int) : ∀ i ∈ stepI actK s n, kI i := by
  intro i hi
  unfold stepI at hi
  rcases List.mem_append.1 hi with hi | hi
  · exact clauses_k _ _ _ _ hs i hi
  · rcases List.mem_append.1 hi with hi | hi
    · cases hb : s.clauses.isEmpty with
      | true => rw [hb] at hi; cases hi
      | false =>
        rw [hb] at hi
        rcases List.mem_cons.1 hi with rfl | hi
        · trivial
        · rcases List.mem_singleton.1 hi with rfl
          exact actK_u _
    · rcases List.mem_singleton.1 hi with rfl
      trivial
theorem steps_k : ∀ (l : List Stp) (n : Int), (∀ s ∈ l, s.fit) → ∀ i ∈ stepsI actK l n, kI i
  | [], n, _, i, hi => by cases hi
  | s :: r, n, hf, i, hi => by
    rcases List.mem_append.1 (show i ∈ stepI actK s n ++ stepsI actK r (n + stepN s) from hi) with hi | hi
    · exact step_k s (hf s (by simp)) n i hi
    · exact steps_k r _ (fun x hx => hf x (by simp [hx])) i hi
theorem leaf_k (x : Span) (hx : x.fit) (n : Int) : ∀ i ∈ leafI actK x n, kI i := by
  intro i hi
  unfold leafI at hi
  rcases List.mem_append.1 hi with hi | hi
  · exact steps_k _ _ hx i hi
  · rcases List.mem_singleton.1 hi with rfl
    exact actK_u _
theorem search_k : ∀ (k : Nat) (l : List Span) (n : Int), (∀ x ∈ l, x.fit ∧ 0 ≤ x.lo ∧ x.lo < 2 ^ 32) → ∀ i ∈ searchI actK k l n, kI i
  | 0, _, _, _, i, hi => by cases hi
  | k + 1, [], _, _, i, hi => by cases hi
  | k + 1, [x], n, hf, i, hi => leaf_k x (hf x (by simp)).1 n i hi
  | k + 1, x :: y :: r, n, hf, i, hi => by
    have hi : i ∈ Item.sym ⟨0, n + 1, 0, 53, loAt (x :: y :: r) ((x :: y :: r).length / 2)⟩ ::
        (searchI actK k ((x :: y :: r).take ((x :: y :: r).length / 2)) (n + 1) ++
          .lab (n + 1) :: searchI actK k ((x :: y :: r).drop ((x :: y :: r).length / 2)) (n + spansN ((x :: y :: r).take ((x :: y :: r).length / 2)))) := hi
    generalize x :: y :: r = l at *
    rcases List.mem_cons.1 hi with rfl | hi
    · show 0 ≤ loAt l (l.length / 2) ∧ loAt l (l.length / 2) < 2 ^ 32
      unfold loAt
      cases hg : l[l.length / 2]? with
      | none => exact ⟨Int.le_refl 0, by decide⟩
      | some z => exact (hf z (List.mem_of_getElem? hg)).2
    · rcases List.mem_append.1 hi with hi | hi
      · exact search_k k _ _ (fun z hz => hf z (List.mem_of_mem_take hz)) i hi
      · rcases List.mem_cons.1 hi with rfl | hi
        · trivial
        · exact search_k k _ _ (fun z hz => hf z (List.mem_of_mem_drop hz)) i hi
theorem code_k (arch kill : Int) (ha : 0 ≤ arch ∧ arch < 2 ^ 32) (hk : 0 ≤ kill ∧ kill < 2 ^ 32) (l : List Span) (hf : ∀ x ∈ l, x.fit ∧ 0 ≤ x.lo ∧ x.lo < 2 ^ 32) : ∀ i ∈ codeI actK arch kill l, kI i := by
  intro i hi
  unfold codeI at hi
  rcases List.mem_cons.1 hi with rfl | hi
  · exact ⟨by decide, by decide⟩
  rcases List.mem_cons.1 hi with rfl | hi
  · exact ha
  rcases List.mem_cons.1 hi with rfl | hi
  · exact hk
  rcases List.mem_cons.1 hi with rfl | hi
  · trivial
  rcases List.mem_cons.1 hi with rfl | hi
  · exact ⟨Int.le_refl 0, by decide⟩
  exact search_k _ _ _ hf i hi
end Go.Proofs.Ytcplpllbinilmaa
