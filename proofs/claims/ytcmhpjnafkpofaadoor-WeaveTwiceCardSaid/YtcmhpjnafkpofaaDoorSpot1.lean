/- Spots: the program's, and the document's. -/
import Derived.Test.YtcmhpjnafkpofaaDoorBase
import Derived.Lib.Strings
import Derived.Lib.Slices
import Derived.Lib.Walk
import Derived.Lib.Bytealg
set_option linter.unusedVariables false
set_option linter.unusedSimpArgs false
namespace Go.Proofs
open Go
set_option maxHeartbeats 1000000 in
set_option maxRecDepth 100000 in
theorem YtcmhpjnafkpofaaDoor.count_one (s : ByteArray) (c : UInt8) (w : World) :
    Calls Tryd.prog 53 #[.string s, .string ⟨#[c]⟩] w fun e w' => e = .returned (.int .i64 (Lib.countByte s.data.toList c)) ∧ w' = w := by
  go_enter Tryd.func53, Tryd.ntmps53
  go_wp2
  rw [run_callFunc_extern Tryd.func65 (by kernel_rfl) (by kernel_rfl) (by kernel_rfl) (e := Extern.BytealgCount.count) (by kernel_rfl), Lib.run_countString]
  simp only [Result.andThen]
  rw [Oper.upon_value]
  go_wp2
  go_ret
  exact ⟨rfl, rfl⟩
end Go.Proofs
namespace Go.Proofs.YtcmhpjnafkpofaaDoor
open Go Go.Am Go.Proofs
attribute [local irreducible] W WL DL WO RoundEnd
set_option maxRecDepth 10000
set_option maxHeartbeats 4000000
theorem extract_list (s : ByteArray) (a b : Nat) : (s.extract a b).data.toList = (s.data.toList.take b).drop a := by
  rw [ByteArray.data_extract, Array.toList_extract]
  simp [List.take_drop]
  by_cases h : a ≤ b
  · have : a + (b - a) = b := by omega
    rw [this]
  · rw [List.drop_eq_nil_of_le (by rw [List.length_take]; omega), List.drop_eq_nil_of_le (by rw [List.length_take]; omega)]
def cntF (bs : List UInt8) : Nat := bs.count 10
theorem countR [GVals] (s : ByteArray) : Comp Tryd.prog 53 [str s, str ⟨#[10]⟩] (int .i64 (cntF s.data.toList)) :=
  comp_still (xs := [.string s, .string ⟨#[10]⟩]) ⟨_, Tryd.func53, by decide, rfl⟩ (fun w => count_one s 10 w) rfl
def downF (c : UInt8) : List UInt8 → Int → Int
  | [], _ => -1
  | b :: r, i => if b = c then i else downF c r (i - 1)
theorem lastByteR [GVals] (s : ByteArray) (c : UInt8) (hs : s.size < 2 ^ 60) : Comp Tryd.prog 42 [str s, int .u8 c.toNat] (int .i64 (downF c s.data.toList.reverse ((s.size : Int) - 1))) := by
  generalize hfb : downF c s.data.toList.reverse ((s.size : Int) - 1) = fb
  have hsz : s.size = s.data.toList.length := rfl
  have e0 : IntKind.wrap .i64 ((s.size : Int) - 1) = (s.size : Int) - 1 := wrap_okz (by omega) (by omega)
  refine Spec.body (C := cx [] 19) fits (fn := Tryd.f42) Tryd.func42 rfl (by decide) (by decide) (gI ?_)
  repeat' (first | (refine C_r ?_; (conv => whnf); first | refine A_o ?_) | fail)
  refine wLoop [0, 1, 5] 0 (s.size + 1) ?_
  refine (fun key => key s.data.toList.reverse [] _ s.size (by simp) (by rw [hsz]; simp) e0 hfb.symm :
    (∀ (rest done : List UInt8) (j : Int) (n : Nat), s.data.toList = rest.reverse ++ done → n = rest.length → j = (n : Int) - 1 → fb = downF c rest ((n : Int) - 1) →
    WR2 _ _ _ _ _ (n + 1) [(0, str s), (1, int .u8 c.toNat), (5, int .i64 j)] []) → _) ?_
  intro rest
  induction rest with
  | nil =>
    intro done j n h1 hn hj hr
    have hn0 : n = 0 := by simpa using hn
    subst hn0
    have hj0 : j = -1 := by rw [hj]; rfl
    subst hj0
    refine wR (gI ?_)
    repeat' (first | ((first | refine C_r ?_ | refine O_r ?_); (conv => whnf); first | (refine ⟨fun hb => ?_, fun hb => ?_⟩ <;> try exact no_way) | refine A_o ?_ | refine fR ?_) | fail)
    exact ⟨by rw [hr]; rfl, rfl⟩
  | cons b rest ih =>
    intro done j n h1 hn hj hr
    have hn1 : n = rest.length + 1 := by simpa using hn
    subst hn1
    have hle : rest.length + 1 ≤ s.size := by rw [hsz, h1]; simp
    have h1' : s.data.toList = rest.reverse ++ b :: done := by rw [h1]; simp
    have hj' : j = (rest.length : Int) := by rw [hj]; omega
    have gx : s.data.toList[j.toNat]? = some b := bs_mid (done := rest.reverse) (rest := done) h1' (by rw [hj']; simp)
    rw [downF] at hr
    have e1 : IntKind.wrap .i64 (j - 1) = (rest.length : Int) - 1 := by rw [wrap_okz (by omega) (by omega)]; omega
    have hb8 : ((b.toNat : Int) == (c.toNat : Int)) = decide (b = c) := by
      by_cases h : b = c
      · subst h; simp
      · rw [decide_eq_false h, beq_eq_false_iff_ne]
        intro h2
        exact h (UInt8.toNat_inj.1 (by omega))
    have ej : ((rest.length + 1 : Nat) : Int) - 1 = j := by rw [hj']; omega
    by_cases hbc : b = c
    · have b1 : ((b.toNat : Int) == (c.toNat : Int)) = true := by rw [hb8, decide_eq_true hbc]
      rw [if_pos hbc, ej] at hr
      refine wR (gI ?_)
      repeat' (first | ((first | refine C_r ?_ | refine O_r ?_); (conv => whnf); first | (refine ⟨fun hb => ?_, fun hb => ?_⟩ <;> try exact no_way) | refine B_o ?_ | refine fR ?_) | refine Xs_l ?_ | fail)
      exact ⟨by rw [hr]; rfl, rfl⟩
    · have b1 : ((b.toNat : Int) == (c.toNat : Int)) = false := by rw [hb8, decide_eq_false hbc]
      rw [if_neg hbc, ej, hj'] at hr
      refine wR (gI ?_)
      repeat' (first | ((first | refine C_r ?_ | refine O_r ?_); (conv => whnf); first | (refine ⟨fun hb => ?_, fun hb => ?_⟩ <;> try exact no_way) | refine B_o ?_ | refine R_o ?_) | refine Xs_l ?_ | fail)
      exact rE (ih (b :: done) _ rest.length h1' rfl e1 hr)
theorem lastR [GVals] (s : ByteArray) (hs : s.size < 2 ^ 60) : Comp Tryd.prog 30 [str s, str ⟨#[10]⟩] (int .i64 (downF 10 s.data.toList.reverse ((s.size : Int) - 1))) := by
  have c1 := lastByteR s 10 hs
  have b0 : (((⟨#[10]⟩ : ByteArray).size : Int) == 0) = false := by decide
  have b1 : (((⟨#[10]⟩ : ByteArray).size : Int) == 1) = true := by decide
  refine Spec.body (C := cx [] 36) fits (fn := Tryd.f30) Tryd.func30 rfl (by decide) (by decide) (gI ?_)
  repeat' (first | ((first | refine C_r ?_ | refine O_r ?_); (conv => whnf); first | (refine ⟨fun hb => ?_, fun hb => ?_⟩ <;> try exact no_way) | refine B_o ?_ | refine fR ?_) | refine C_l (c1) ?_ | refine Q_l ?_ | fail)
  exact ⟨rfl, rfl⟩
/-! spots -/
def stepF (p : Nat × Nat) (b : UInt8) : Nat × Nat := if b = 10 then (p.1 + 1, 1) else (p.1, p.2 + 1)
def walkF (p : Nat × Nat) (bs : List UInt8) : Nat × Nat := bs.foldl stepF p
theorem walk_snoc (p : Nat × Nat) (bs : List UInt8) (b : UInt8) : walkF p (bs ++ [b]) = stepF (walkF p bs) b := by simp [walkF]
theorem walk_append (p : Nat × Nat) (a b : List UInt8) : walkF p (a ++ b) = walkF (walkF p a) b := by simp [walkF]
theorem walk_rev (p : Nat × Nat) : ∀ r : List UInt8, walkF p r.reverse = if r.count 10 = 0 then (p.1, p.2 + r.length) else (p.1 + r.count 10, (r.takeWhile (· ≠ 10)).length + 1)
  | [] => by simp [walkF]
  | b :: r => by
    rw [List.reverse_cons, walk_snoc, walk_rev p r]
    unfold stepF
    by_cases hb : b = 10
    · subst hb
      simp
      split
      · rename_i h; simp [h]
      · rfl
    · rw [if_neg hb]
      have e : List.count 10 (b :: r) = List.count 10 r := by rw [List.count_cons]; simp [hb]
      rw [e]
      split
      · simp; omega
      · simp [hb]
theorem down_eq (c : UInt8) : ∀ r : List UInt8, r.count c ≠ 0 → downF c r ((r.length : Int) - 1) = (r.length : Int) - 1 - ((r.takeWhile (· ≠ c)).length : Int)
  | [], h => by simp at h
  | b :: r, h => by
    rw [downF]
    by_cases hb : b = c
    · subst hb; simp
    · rw [if_neg hb]
      have e : List.count c (b :: r) = List.count c r := by rw [List.count_cons]; simp [hb]
      rw [e] at h
      have := down_eq c r h
      have e2 : (((b :: r).length : Nat) : Int) - 1 - 1 = (r.length : Int) - 1 := by simp only [List.length_cons]; omega
      rw [e2, this]
      simp [hb]; omega
theorem walk_len (p : Nat × Nat) (bs : List UInt8) : (walkF p bs).1 ≤ p.1 + bs.length ∧ (walkF p bs).2 ≤ p.2 + bs.length + 1 := by
  have := walk_rev p bs.reverse
  rw [List.reverse_reverse] at this
  rw [this]
  have h1 : bs.count 10 ≤ bs.length := List.count_le_length
  have h2 : (bs.reverse.takeWhile (· ≠ 10)).length ≤ bs.length := by
    have := (List.takeWhile_sublist (p := (· ≠ (10 : UInt8))) (l := bs.reverse)).length_le
    simpa using this
  rw [List.count_reverse] at this ⊢
  rw [List.length_reverse]
  split
  · simp only; omega
  · simp only; omega
def spotV (p : Nat × Nat) : V := .one (.d (.sc (.complex .f64 (F p.1) (F p.2))))
theorem behindR [GVals] (p : Nat × Nat) (s : ByteArray) (hp : p.1 < 2 ^ 50 ∧ p.2 < 2 ^ 50) (hs : s.size < 2 ^ 50) : Comp Tryd.prog 72 [spotV p, str s] (spotV (walkF p s.data.toList)) := by
  have c1 := countR s
  have c2 := lastR s (by omega)
  have hsz : s.size = s.data.toList.length := rfl
  have hw := walk_rev p s.data.toList.reverse
  rw [List.reverse_reverse, List.count_reverse, List.length_reverse, ← hsz] at hw
  have hd := down_eq 10 s.data.toList.reverse
  rw [List.count_reverse, List.length_reverse, ← hsz] at hd
  have hcl : s.data.toList.count 10 ≤ s.size := by rw [hsz]; exact List.count_le_length
  have htl : (s.data.toList.reverse.takeWhile (· ≠ 10)).length ≤ s.size := by
    have := (List.takeWhile_sublist (p := (· ≠ (10 : UInt8))) (l := s.data.toList.reverse)).length_le
    simpa using this
  unfold cntF at c1
  generalize s.data.toList.count 10 = n at *
  generalize (s.data.toList.reverse.takeWhile (· ≠ 10)).length = m at *
  generalize downF 10 s.data.toList.reverse ((s.size : Int) - 1) = i at *
  rw [hw]
  obtain ⟨l, c⟩ := p
  simp only at *
  by_cases hn : n = 0
  · subst hn
    have b1 : (((0 : Nat) : Int) == 0) = true := rfl
    have hc : c + ((s.size : Int)).toNat < 2 ^ 53 := by omega
    refine Spec.body (C := cx [] 31) fits (fn := Tryd.f72) Tryd.func72 rfl (by decide) (by decide) (gI ?_)
    repeat' (first | ((first | refine C_r ?_ | refine O_r ?_); (conv => whnf); first | (refine ⟨fun hb => ?_, fun hb => ?_⟩ <;> try exact no_way) | refine B_o ?_ | refine fR ?_) | refine C_l (c1) ?_ | refine V_l ?_ | refine Q_l ?_ | fail)
    exact ⟨by rw [if_pos rfl]; rfl, rfl⟩
  · have b1 : ((n : Int) == 0) = false := beq_eq_false_iff_ne.2 (by omega)
    have hi := hd hn
    have hc : l + ((n : Int)).toNat < 2 ^ 53 := by omega
    refine Spec.body (C := cx [] 31) fits (fn := Tryd.f72) Tryd.func72 rfl (by decide) (by decide) (gI ?_)
    repeat' (first | ((first | refine C_r ?_ | refine O_r ?_); (conv => whnf); first | (refine ⟨fun hb => ?_, fun hb => ?_⟩ <;> try exact no_way) | refine B_o ?_ | refine fR ?_) | refine C_l (c1) ?_ | refine C_l (c2) ?_ | refine V_l ?_ | refine Q_l ?_ | fail)
    have e1 : IntKind.wrap .i64 ((s.size : Int) - i) = ((m + 1 : Nat) : Int) := by rw [wrap_okz (by omega) (by omega), hi]; omega
    exact ⟨by rw [if_neg hn, e1, nearest_F]; rfl, rfl⟩
end Go.Proofs.YtcmhpjnafkpofaaDoor
