/- The law WeaveTells. -/
import Derived.Test.YtcmhpjnafkpofaaDoorWvC
import Derived.Test.YtcmhpjnafkpofaaDoorTy0
import Derived.KernelRfl
set_option linter.unusedVariables false
set_option linter.unusedSimpArgs false
namespace Go.Proofs.YtcmhpjnafkpofaaDoor
open Go Go.Am Go.Proofs
attribute [local irreducible] W WL DL WO RoundEnd
set_option maxRecDepth 10000
set_option maxHeartbeats 4000000
set_option linter.unusedVariables false
set_option linter.unusedSimpArgs false
def aliveL : List File := [⟨⟨#[97]⟩, ⟨#[120, 32, 35, 105, 110, 99, 108, 117, 100, 101, 32, 34, 98, 34, 32, 122]⟩⟩, ⟨⟨#[98]⟩, ⟨#[121]⟩⟩]
def aliveT : List Tok := [⟨1, ⟨#[120]⟩, 0, (1, 1)⟩, ⟨1, ⟨#[121]⟩, 1, (1, 1)⟩, ⟨1, ⟨#[122]⟩, 0, (1, 16)⟩]
theorem alive_nil : wovenA [] ⟨#[97]⟩ = (⟨4, -1, (0, 0)⟩, []) := by kernel_rfl
theorem alive_two : wovenA aliveL ⟨#[97]⟩ = (flt0, aliveT) := by kernel_rfl
theorem fEq0 : fEq 0 0 = true := by
  have := fEq_self 0 (by decide)
  rwa [F_zero] at this
theorem alive10 [GVals] : Comp Tryd.prog 16 [] (Am.bool true) := by
  have c1 := tokensR [] ⟨#[97]⟩ (fun x hx => by cases hx) (by decide) (by decide)
  have c2 := tokensR aliveL ⟨#[97]⟩ (by unfold shortF; decide) (by decide) (by decide)
  rw [alive_nil] at c1
  rw [alive_two] at c2
  unfold wvV at c1 c2
  rw [flt0_row] at c2
  have e1 := fEq0
  refine Spec.body (C := cx [] 48) fits (fn := Tryd.f16) Tryd.func16 rfl (by decide) (by decide) (gI ?_)
  repeat' (first | ((first | refine C_r ?_ | refine O_r ?_); (conv => whnf); first | (refine ⟨fun hb => ?_, fun hb => ?_⟩ <;> try exact no_way) | refine B_o ?_ | refine fR ?_) | refine C_l (c1) ?_ | refine C_l (c2) ?_ | refine Q_l ?_ | fail)
  all_goals first | exact ⟨rfl, rfl⟩ | (exfalso; simp only [beq_self_eq_true, e1, Bool.true_and, Bool.and_true] at hb; cases hb) | trace_state
theorem weaveTells [GVals] (L : List File) (root : ByteArray) (hl : L.length < 2 ^ 60) : Comp Tryd.prog 5 [lst File.row L, str root] (Am.bool true) := by
  have c0 := alive10
  have c1 := fewR L hl
  cases hf : fewFl L with
  | false =>
    rw [hf] at c1
    refine Spec.body (C := cx [] 50) fits (fn := Tryd.f5) Tryd.func5 rfl (by decide) (by decide) (gI ?_)
    repeat' (first | ((first | refine C_r ?_ | refine O_r ?_); (conv => whnf); first | (refine ⟨fun hb => ?_, fun hb => ?_⟩ <;> try exact no_way) | refine B_o ?_ | refine fR ?_) | refine C_l (c0) ?_ | refine C_l (c1) ?_ | fail)
    all_goals exact ⟨rfl, rfl⟩
  | true =>
  rw [hf] at c1
  obtain ⟨hL, h8, h600⟩ := fewFl_short hf
  cases k1 : decide ((root.size : Int) > 60) with
  | true =>
    refine Spec.body (C := cx [] 50) fits (fn := Tryd.f5) Tryd.func5 rfl (by decide) (by decide) (gI ?_)
    repeat' (first | ((first | refine C_r ?_ | refine O_r ?_); (conv => whnf); first | (refine ⟨fun hb => ?_, fun hb => ?_⟩ <;> try exact no_way) | refine B_o ?_ | refine fR ?_) | refine C_l (c0) ?_ | refine C_l (c1) ?_ | fail)
    all_goals exact ⟨rfl, rfl⟩
  | false =>
  have hr : root.size ≤ 60 := by have := of_decide_eq_false k1; omega
  have c2 := includesR L (by omega) (fun x hx => by have := h600 x hx; omega)
  cases k2 : decide (incF L > 12) with
  | true =>
    refine Spec.body (C := cx [] 50) fits (fn := Tryd.f5) Tryd.func5 rfl (by decide) (by decide) (gI ?_)
    repeat' (first | ((first | refine C_r ?_ | refine O_r ?_); (conv => whnf); first | (refine ⟨fun hb => ?_, fun hb => ?_⟩ <;> try exact no_way) | refine B_o ?_ | refine fR ?_) | refine C_l (c0) ?_ | refine C_l (c1) ?_ | refine C_l (c2) ?_ | fail)
    all_goals exact ⟨rfl, rfl⟩
  | false =>
  have c3 := tokensR L root hL (by omega) (by omega)
  have c4 := docWeaveR L root hL (by omega) (by omega)
  obtain ⟨hlow, hlowT⟩ := woven_low L hL root
  have hwl := woven_len L hL root
  have c5 := sameToks (wovenA L root).2 hwl hlowT
  generalize wovenA L root = q at *
  obtain ⟨⟨fe, ff, fp⟩, l⟩ := q
  have e1 := fEq_self fp.1 hlow.1
  have e2 := fEq_self fp.2 hlow.2
  unfold wvV at c3 c4
  dsimp only at c3 c4 c5
  refine Spec.body (C := cx [] 50) fits (fn := Tryd.f5) Tryd.func5 rfl (by decide) (by decide) (gI ?_)
  repeat' (first | ((first | refine C_r ?_ | refine O_r ?_); (conv => whnf); first | (refine ⟨fun hb => ?_, fun hb => ?_⟩ <;> try exact no_way) | refine B_o ?_ | refine fR ?_) | refine C_l (c0) ?_ | refine C_l (c1) ?_ | refine C_l (c2) ?_ | refine C_l (c3) ?_ | refine C_l (c4) ?_ | refine C_l (c5) ?_ | refine A0_l ?_ | fail)
  all_goals first | exact ⟨rfl, rfl⟩ | (exfalso; simp only [beq_self_eq_true, e1, e2, Bool.true_and, Bool.and_true] at hb; cases hb) | trace_state
theorem str_typed {xs : List D} (h : Typed Tryd.prog 9 xs) : ∃ s : ByteArray, xs = [.sc (.string s)] ∧ s.size ≤ reachBytes := h.str_inv Tryd.underlying9
theorem file_typed {xs : List D} (h : Typed Tryd.prog 25 xs) : ∃ x : File, xs = x.row := by
  obtain ⟨xss, rfl, hn, hf⟩ := h.struct_inv Tryd.underlying25
  have hn : xss.length = 2 := by rw [hn]; rfl
  obtain ⟨a, b, rfl⟩ : ∃ a b, xss = [a, b] := by
    match xss, hn with
    | [a, b], _ => exact ⟨a, b, rfl⟩
  obtain ⟨n0, rfl, h0⟩ := str_typed (hf 0 _ a rfl rfl)
  obtain ⟨n1, rfl, h1⟩ := str_typed (hf 1 _ b rfl rfl)
  exact ⟨⟨n0, n1⟩, rfl⟩
theorem files_typed {xs : List D} (h : Typed Tryd.prog 22 xs) : ∃ l : List File, xs = [.list (l.map File.row)] ∧ l.length < 2 ^ 60 := by
  obtain ⟨rows, rfl, hr, hs⟩ := h.slice_inv Tryd.underlying22
  obtain ⟨l, rfl, _⟩ := list_typed (f := File.row) (p := fun _ => True) (fun row _ h => by
    obtain ⟨x, rfl⟩ := file_typed h
    exact ⟨x, rfl, trivial⟩) hr
  have hb : Tryd.prog.bytesOf 25 = 32 := by kernel_rfl
  rw [hb, List.length_map] at hs
  exact ⟨l, rfl, by have : reachBytes = 140737488351232 := rfl; omega⟩
theorem weaveTells_typed [GVals] {x0 x1 : List D} (y0 : Typed Tryd.prog 22 x0) (y1 : Typed Tryd.prog 9 x1) :
    Comp Tryd.prog 5 [argV (aggTy Tryd.prog 22) x0, argV (aggTy Tryd.prog 9) x1] (Am.bool true) := by
  have a0 : aggTy Tryd.prog 22 = false := by unfold aggTy; rw [Tryd.underlying22]
  have a1 : aggTy Tryd.prog 9 = false := by unfold aggTy; rw [Tryd.underlying9]
  rw [a0, a1]
  obtain ⟨l, rfl, hl⟩ := files_typed y0
  obtain ⟨b, rfl, _⟩ := str_typed y1
  exact weaveTells l b hl
end Go.Proofs.YtcmhpjnafkpofaaDoor
