/- The reader of tokens: signs, numbers. -/
import Derived.Test.YtcmhpjnafkpofaaDoorTk2
set_option linter.unusedVariables false
set_option linter.unusedSimpArgs false
namespace Go.Proofs.YtcmhpjnafkpofaaDoor
open Go Go.Am Go.Proofs
attribute [local irreducible] W WL DL WO RoundEnd
set_option maxRecDepth 10000
set_option maxHeartbeats 4000000
set_option linter.unusedVariables false
set_option linter.unusedSimpArgs false
def strow9 (s : ByteArray) : List D := [.sc (.string s)]
/-- is a text among these? -/
def ixF (s : ByteArray) : List ByteArray → Int → Int
  | [], _ => -1
  | x :: r, j => if s == x then j else ixF s r (j + 1)
theorem ixF_ge (s : ByteArray) : ∀ (l : List ByteArray) (j : Int), 0 ≤ j → (0 ≤ ixF s l j ↔ l.any (s == ·) = true)
  | [], j, _ => by simp [ixF]
  | x :: r, j, h => by
    rw [ixF, List.any_cons]
    by_cases e : (s == x) = true
    · rw [if_pos e, e]; simp [h]
    · rw [if_neg e, Bool.eq_false_iff.2 e, Bool.false_or]; exact ixF_ge s r (j + 1) (by omega)
theorem index9 [GVals] (l : List ByteArray) (s : ByteArray) (hl : l.length < 2 ^ 60) : Comp Tryd.prog 97 [lst strow9 l, str s] (int .i64 (ixF s l 0)) := by
  generalize hfb : ixF s l 0 = fb
  refine Spec.body (C := cx [] 19) fits (fn := Tryd.f97) Tryd.func97 rfl (by decide) (by decide) (gI ?_)
  repeat' (first | (refine C_r ?_; (conv => whnf); first | refine A_o ?_) | fail)
  refine wLoop [0, 1, 7, 8] 0 (l.length + 1) ?_
  refine (fun key => key l [] _ rfl rfl hfb.symm :
    (∀ (rest done : List ByteArray) (j : Int), l = done ++ rest → j = done.length → fb = ixF s rest j →
    WR2 _ _ _ _ _ (rest.length + 1) [(0, lst strow9 l), (1, str s), (7, int .i64 (l.map strow9).length), (8, int .i64 j)] []) → _) ?_
  intro rest
  induction rest with
  | nil =>
    intro done j h1 hj hr
    have hlen : l.length = done.length := by rw [h1]; simp
    refine wR (gI ?_)
    repeat' (first | ((first | refine C_r ?_ | refine O_r ?_); (conv => whnf); first | (refine ⟨fun hb => ?_, fun hb => ?_⟩ <;> try exact no_way) | refine A_o ?_ | refine fR ?_) | fail)
    exact ⟨by rw [hr]; rfl, rfl⟩
  | cons x rest ih =>
    intro done j h1 hj hr
    have hlen : l.length = done.length + (rest.length + 1) := by rw [h1]; simp
    refine wR (gI ?_)
    repeat' (first | ((first | refine C_r ?_ | refine O_r ?_); (conv => whnf); first | (refine ⟨fun hb => ?_, fun hb => ?_⟩ <;> try exact no_way) | refine B_o ?_ | refine R_o ?_ | refine fR ?_) | refine X_l ?_ | fail)
    · exact ⟨by rw [hr]; simp only [ixF, hb]; rfl, rfl⟩
    · refine rE (ih (done ++ [x]) _ (by rw [h1]; simp) ?_ ?_)
      · rw [wrap_ok (by omega) (by omega)]; simp [hj]
      · rw [hr, wrap_ok (by omega) (by omega)]; simp only [ixF, hb]; rfl
theorem containsR [GVals] (l : List ByteArray) (s : ByteArray) (hl : l.length < 2 ^ 60) : Comp Tryd.prog 92 [lst strow9 l, str s] (bool (l.any (s == ·))) := by
  have c1 := index9 l s hl
  have hg := ixF_ge s l 0 (by omega)
  refine Spec.body (C := cx [] 9) fits (fn := Tryd.f92) Tryd.func92 rfl (by decide) (by decide) (gI ?_)
  repeat' (first | ((first | refine C_r ?_ | refine O_r ?_); (conv => whnf); first | (refine ⟨fun hb => ?_, fun hb => ?_⟩ <;> try exact no_way) | refine B_o ?_ | refine fR ?_) | refine C_l (c1) ?_ | fail)
  · have h : l.any (s == ·) = true := hg.1 (by simpa using hb)
    exact ⟨by rw [h]; rfl, rfl⟩
  · have h : l.any (s == ·) = false := by
      rw [Bool.eq_false_iff]; intro h; have := hg.2 h; simp at hb; omega
    exact ⟨by rw [h]; rfl, rfl⟩
theorem indexByteR [GVals] (s : ByteArray) (b : UInt8) : Comp Tryd.prog 93 [str s, int .u8 b.toNat] (int .i64 (Lib.indexByte s.data.toList b)) :=
  comp_still (xs := [.string s, .int .u8 b.toNat]) ⟨_, Tryd.func93, by decide, rfl⟩ (fun w => by
    have h := Tryd.strings_IndexByte s (b.toNat : Int) w
    rw [show ((b.toNat : Int)).toNat.toUInt8 = b from by simp] at h
    exact h) rfl
theorem byte_index (c : UInt8) : ∀ (l : List UInt8), -1 ≤ Lib.indexByte l c ∧ (decide (Lib.indexByte l c ≥ 0) = l.any (· == c))
  | [] => by simp [Lib.indexByte]
  | b :: r => by
    have ih := byte_index c r
    rw [Lib.indexByte, List.any_cons]
    cases h : (b == c) with
    | true => simp
    | false =>
      simp only [Bool.false_eq_true, if_false, Bool.false_or]
      rw [← ih.2]
      split
      · rename_i h2
        rw [beq_iff_eq] at h2
        rw [h2]; simp
      · rename_i h2
        simp only [beq_iff_eq] at h2
        refine ⟨by omega, ?_⟩
        rw [decide_eq_decide]
        omega
def twos : List ByteArray := [⟨#[38, 38]⟩, ⟨#[124, 124]⟩, ⟨#[61, 61]⟩, ⟨#[33, 61]⟩, ⟨#[60, 61]⟩, ⟨#[62, 61]⟩]
def oneS : ByteArray := ⟨#[123, 125, 40, 41, 44, 33, 38, 124, 60, 62]⟩
def signF (s : ByteArray) : Int :=
  bif decide ((s.size : Int) > 1) && twos.any (s.extract 0 2 == ·) then 2 else
  match s.data.toList[0]? with
  | some b => bif oneS.data.toList.any (· == b) then 1 else 0
  | none => 0
theorem signR [GVals] (s : ByteArray) (b : UInt8) (h0 : s.data.toList[(0 : Int).toNat]? = some b) : Comp Tryd.prog 80 [str s] (int .i64 (signF s)) := by
  have c1 := containsR twos (s.extract 0 2) (by decide)
  have c2 := indexByteR oneS b
  obtain ⟨g1, g2⟩ := byte_index b oneS.data.toList
  have h0' : s.data.toList[0]? = some b := h0
  generalize Lib.indexByte oneS.data.toList b = j at *
  have hone : signF s = (bif decide ((s.size : Int) > 1) && twos.any (s.extract 0 2 == ·) then 2 else (bif decide (j ≥ 0) then 1 else 0)) := by
    unfold signF; rw [h0', g2]
  rw [hone]
  cases k1 : decide ((s.size : Int) > 1) with
  | false =>
    refine Spec.body (C := cx [] 16) fits (fn := Tryd.f80) Tryd.func80 rfl (by decide) (by decide) (gI ?_)
    repeat' (first | ((first | refine C_r ?_ | refine O_r ?_); (conv => whnf); first | (refine ⟨fun hb => ?_, fun hb => ?_⟩ <;> try exact no_way) | refine B_o ?_ | refine fR ?_) | refine C_l (c2) ?_ | refine Xs_l ?_ | fail)
    all_goals exact ⟨by rw [hb]; rfl, rfl⟩
  | true =>
    have hsz : 2 ≤ s.size := by rw [decide_eq_true_eq] at k1; omega
    generalize twos.any (s.extract 0 2 == ·) = tw at *
    refine Spec.body (C := cx [] 16) fits (fn := Tryd.f80) Tryd.func80 rfl (by decide) (by decide) (gI ?_)
    repeat' (first | ((first | refine C_r ?_ | refine O_r ?_); (conv => whnf); first | (refine ⟨fun hb => ?_, fun hb => ?_⟩ <;> try exact no_way) | refine B_o ?_ | refine fR ?_) | refine B_l (c1) (fun k2 => ?_) fun k2 => ?_ | refine C_l (c2) ?_ | refine Xs_l ?_ | refine Kz_l ?_ | fail)
    all_goals first | exact ⟨by rw [k2]; rfl, rfl⟩ | exact ⟨by rw [k2, hb]; rfl, rfl⟩
end Go.Proofs.YtcmhpjnafkpofaaDoor
