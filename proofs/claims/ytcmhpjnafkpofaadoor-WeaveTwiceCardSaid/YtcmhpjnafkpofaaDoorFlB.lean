/- fl4 fl5, as one text. -/
import Derived.Test.YtcmhpjnafkpofaaDoorFlA
set_option linter.unusedVariables false
set_option linter.unusedSimpArgs false
/- Paths: the document's clean. -/
namespace Go.Proofs.YtcmhpjnafkpofaaDoor
open Go Go.Am Go.Proofs
attribute [local irreducible] W WL DL WO RoundEnd
set_option maxRecDepth 10000
set_option maxHeartbeats 4000000
set_option linter.unusedVariables false
set_option linter.unusedSimpArgs false
/-- so far: nil, or a list -/
def nilOr (v : V) (out : List ByteArray) : Prop := (v = nilV ∧ out = []) ∨ v = lst strrow out
theorem join_one (a : ByteArray) : joinB [a] = a := by
  unfold joinB
  rw [List.map_cons, List.map_nil, Lib.join_one]; rfl
theorem join_snoc (a : ByteArray) (l : List ByteArray) (x : ByteArray) : joinB (a :: (l ++ [x])) = joinB (a :: l) ++ slash ++ x := by
  unfold joinB
  rw [List.map_cons, List.map_cons, List.map_append, Lib.join_cons, Lib.join_cons]
  apply ByteArray.ext
  apply Array.ext'
  simp [ba, Lib.joinTail, slash, ByteArray.toList_data_append]
theorem refCleanR [GVals] (ps : List ByteArray) (hp : ps.length < 2 ^ 34) (hj : ∀ out k, cleanW ps [] = some out → (joinB (out.take k)).size ≤ 4294967296) : Comp Tryd.prog 25 [lst strrow ps] (refV (cleanW ps [])) := by
  generalize hfb : cleanW ps [] = fb at *
  refine Spec.body (C := cx [(19, false)] 59) fits (fn := Tryd.f25) Tryd.func25 rfl (by decide) (by decide) (gI ?_)
  repeat' (first | (refine C_r ?_; (conv => whnf); first | refine A_o ?_) | fail)
  refine wLoop [0, 4, 5] 0 (ps.length + 1) ?_
  refine (fun key => key ps [] [] _ (.inl ⟨rfl, rfl⟩) rfl hfb.symm (Nat.le_refl _) :
    (∀ (rest done out : List ByteArray) (v : V), nilOr v out → ps = done ++ rest → fb = cleanW rest out → out.length ≤ done.length →
    WR2 _ _ _ _ _ (rest.length + 1) [(0, lst strrow ps), (4, v), (5, int .i64 done.length)] []) → _) ?_
  intro rest
  induction rest with
  | nil =>
    intro done out v hv h1 hr ho
    have hlen : ps.length = done.length := by rw [h1]; simp
    have hfb2 : fb = some out := hr
    subst hfb2
    have q : decide ((done.length : Int) < ((ps.map strrow).length : Int)) = false := by rw [decide_eq_false_iff_not, List.length_map]; omega
    rcases hv with ⟨rfl, rfl⟩ | rfl
    · refine wR (gI ?_)
      repeat' (first | ((first | refine C_r ?_ | refine O_r ?_); (conv => whnf); first | (refine ⟨fun hb => ?_, fun hb => ?_⟩ <;> try exact no_way) | refine A_o ?_ | refine fR ?_) | fail)
      exact ⟨rfl, rfl⟩
    · cases out with
      | nil =>
        refine wR (gI ?_)
        repeat' (first | ((first | refine C_r ?_ | refine O_r ?_); (conv => whnf); first | (refine ⟨fun hb => ?_, fun hb => ?_⟩ <;> try exact no_way) | refine A_o ?_ | refine fR ?_) | fail)
        exact ⟨rfl, rfl⟩
      | cons a r =>
        have k1 : (((((a :: r).map strrow).length : Int)) == 0) = false := by rw [beq_eq_false_iff_ne, List.length_map, List.length_cons]; omega
        have g0 := at_of (f := strrow) (show (a :: r)[((0 : Int)).toNat]? = some a from rfl)
        have hrl : (a :: r).length = r.length + 1 := rfl
        generalize hall : a :: r = al at *
        refine wR (gI ?_)
        repeat' (first | ((first | refine C_r ?_ | refine O_r ?_); (conv => whnf); first | (refine ⟨fun hb => ?_, fun hb => ?_⟩ <;> try exact no_way) | refine A_o ?_ | refine B_o ?_) | refine X_l ?_ | fail)
        clear k1 g0 q hr
        refine wLoop [4, 6, 7] 0 (r.length + 1) ?_
        refine (fun key => key r [] _ _ rfl (join_one a).symm rfl :
          (∀ (rest done : List ByteArray) (sj : ByteArray) (jj : Int), r = done ++ rest → sj = joinB (a :: done) → jj = (done.length : Int) + 1 →
          WR2 _ _ _ _ _ (rest.length + 1) [(4, lst strrow al), (6, str sj), (7, int .i64 jj)] []) → _) ?_
        intro rest
        induction rest with
        | nil =>
          intro done2 sj jj h2 hsj hjj
          rw [List.append_nil] at h2
          subst h2
          subst hsj
          subst hjj
          subst hall
          have q : decide ((r.length : Int) + 1 < (((a :: r).map strrow).length : Int)) = false := by rw [decide_eq_false_iff_not, List.length_map, List.length_cons]; omega
          refine wR (gI ?_)
          repeat' (first | ((first | refine C_r ?_ | refine O_r ?_); (conv => whnf); first | (refine ⟨fun hb => ?_, fun hb => ?_⟩ <;> try exact no_way) | refine A_o ?_ | refine fR ?_) | fail)
          exact ⟨rfl, rfl⟩
        | cons y rest ih =>
          intro done2 sj jj h2 hsj hjj
          subst hsj
          subst hjj
          have hl2 : r.length = done2.length + (rest.length + 1) := by rw [h2]; simp
          have q : decide ((done2.length : Int) + 1 < ((al.map strrow).length : Int)) = true := by rw [decide_eq_true_eq, List.length_map]; omega
          have hy : al[((done2.length : Int) + 1).toNat]? = some y := by
            rw [show ((done2.length : Int) + 1).toNat = done2.length + 1 from by omega, ← hall, h2]
            simp
          have g2 := at_of (f := strrow) hy
          have g := fun jj => ih (done2 ++ [y]) _ jj (by rw [h2]; simp) (join_snoc a done2 y).symm
          have e7 : IntKind.i64.wrap ((done2.length : Int) + 1 + 1) = (((done2 ++ [y]).length : Int) + 1) := by rw [wrap_ok (by omega) (by omega), List.length_append]; simp
          have z2 := hj al (done2.length + 2) rfl
          have z3 : al.take (done2.length + 2) = a :: (done2 ++ [y]) := by
            rw [← hall, h2, List.take_succ_cons, List.take_append, List.take_of_length_le (by omega), show done2.length + 1 - done2.length = 1 by omega]; rfl
          rw [z3, join_snoc] at z2
          have z4 : (joinB (a :: done2) ++ (⟨#[47]⟩ : ByteArray)).size + y.size ≤ 4294967296 := by rw [← ByteArray.size_append]; exact z2
          have z5 : (joinB (a :: done2)).size + (⟨#[47]⟩ : ByteArray).size ≤ 4294967296 := by rw [← ByteArray.size_append]; omega
          clear ih
          refine wR (gI ?_)
          repeat' (first | ((first | refine C_r ?_ | refine O_r ?_); (conv => whnf); first | (refine ⟨fun hb => ?_, fun hb => ?_⟩ <;> try exact no_way) | refine B_o ?_ | refine R_o ?_) | refine SA_l ?_ | refine X_l ?_ | fail)
          exact rE (g _ e7)
  | cons x rest ih =>
    intro done out v hv h1 hr ho
    have hlen : ps.length = done.length + (rest.length + 1) := by rw [h1]; simp
    have q : decide ((done.length : Int) < ((ps.map strrow).length : Int)) = true := by rw [decide_eq_true_eq, List.length_map]; omega
    have hx : ps[((done.length : Nat) : Int).toNat]? = some x := by rw [h1]; simp
    have g2 := at_of (f := strrow) hx
    have e7 : IntKind.i64.wrap ((done.length : Int) + 1) = ((done.length + 1 : Nat) : Int) := by rw [wrap_ok (by omega) (by omega)]; omega
    have hol : out.length < 2 ^ 34 := by omega
    have hol2 : (out.map strrow).length < 2 ^ 34 := by rw [List.length_map]; omega
    have hnx := fun out2 v2 (hv : nilOr v2 out2) (h : fb = cleanW rest out2) (hl2 : out2.length ≤ done.length + 1) => ih (done ++ [x]) out2 v2 hv (by rw [h1]; simp) h (by rw [List.length_append]; exact hl2)
    rw [show (done ++ [x]).length = done.length + 1 from by simp] at hnx
    rw [cleanW] at hr
    clear ih
    rcases hv with ⟨rfl, rfl⟩ | rfl
    · refine wR (gI ?_)
      refine gRoom ?_
      repeat' (first | ((first | refine C_r ?_ | refine O_r ?_ | refine R_r ?_); (conv => whnf); first | (refine ⟨fun hb => ?_, fun hb => ?_⟩ <;> try exact no_way) | refine B_o ?_ | refine C_o ?_ | refine R_o ?_ | refine fR ?_) | refine X_l ?_ | refine A1_d ?_ | refine X_d ?_ | refine A_d ?_ | fail)
      · rw [hb] at hr
        rw [e7]; exact rE (hnx [] _ (.inl ⟨rfl, rfl⟩) hr (by simp))
      · rw [hb, Bool.or_true] at hr
        rw [e7]; exact rE (hnx [] _ (.inl ⟨rfl, rfl⟩) hr (by simp))
      · simp only [‹(x == ⟨#[]⟩) = false›, ‹(x == ⟨#[46]⟩) = false›, Bool.or_false, cond_false, ‹(x == ⟨#[46, 46]⟩) = true›, List.isEmpty_nil, cond_true] at hr
        rw [hr]; exact ⟨rfl, rfl⟩
      · simp only [‹(x == ⟨#[]⟩) = false›, ‹(x == ⟨#[46]⟩) = false›, Bool.or_false, cond_false, ‹(x == ⟨#[46, 46]⟩) = false›] at hr
        have g := hnx ([] ++ [x]) _ (.inr rfl) hr (by simp)
        rw [e7]; exact rES 4 g
    · cases h0 : out.isEmpty with
      | true =>
        have ho0 : out = [] := List.isEmpty_iff.1 h0
        subst ho0
        refine wR (gI ?_)
        refine gRoom ?_
        repeat' (first | ((first | refine C_r ?_ | refine O_r ?_ | refine R_r ?_); (conv => whnf); first | (refine ⟨fun hb => ?_, fun hb => ?_⟩ <;> try exact no_way) | refine B_o ?_ | refine C_o ?_ | refine R_o ?_ | refine fR ?_) | refine X_l ?_ | refine A1_d ?_ | refine X_d ?_ | refine A_d ?_ | fail)
        · rw [hb] at hr
          rw [e7]; exact rE (hnx [] _ (.inr rfl) hr (by simp))
        · rw [hb, Bool.or_true] at hr
          rw [e7]; exact rE (hnx [] _ (.inr rfl) hr (by simp))
        · simp only [‹(x == ⟨#[]⟩) = false›, ‹(x == ⟨#[46]⟩) = false›, Bool.or_false, cond_false, ‹(x == ⟨#[46, 46]⟩) = true›, List.isEmpty_nil, cond_true] at hr
          rw [hr]; exact ⟨rfl, rfl⟩
        · simp only [‹(x == ⟨#[]⟩) = false›, ‹(x == ⟨#[46]⟩) = false›, Bool.or_false, cond_false, ‹(x == ⟨#[46, 46]⟩) = false›] at hr
          have g := hnx ([] ++ [x]) _ (.inr rfl) hr (by simp)
          rw [e7]; exact rES 4 g
      | false =>
        have hpos : 0 < out.length := by
          cases out with
          | nil => cases h0
          | cons a b => simp
        have k1 : ((((out.map strrow).length : Int)) == 0) = false := by rw [beq_eq_false_iff_ne, List.length_map]; omega
        have k2 := drop_rows out hpos (by omega)
        have k4 : 0 ≤ IntKind.i64.wrap (((out.map strrow).length : Int) - 1) := by rw [List.length_map, wrap_ok (by omega) (by omega)]; omega
        have k5 : IntKind.i64.wrap (((out.map strrow).length : Int) - 1) ≤ (out.map strrow).length := by rw [List.length_map, wrap_ok (by omega) (by omega)]; omega
        refine wR (gI ?_)
        refine gRoom ?_
        repeat' (first | ((first | refine C_r ?_ | refine O_r ?_ | refine R_r ?_); (conv => whnf); first | (refine ⟨fun hb => ?_, fun hb => ?_⟩ <;> try exact no_way) | refine B_o ?_ | refine C_o ?_ | refine R_o ?_) | refine K_l ?_ (a := none) (b := some (IntKind.i64.wrap (((out.map strrow).length : Int) - 1))) (rows' := out.dropLast.map strrow) (h1 := Int.le_refl 0) (h2 := k4) (h3 := k5) (hr := k2) | refine X_l ?_ | refine A1_d ?_ | refine X_d ?_ | refine A_d ?_ | fail)
        · rw [hb] at hr
          rw [e7]; exact rE (hnx out _ (.inr rfl) hr (by omega))
        · rw [hb, Bool.or_true] at hr
          rw [e7]; exact rE (hnx out _ (.inr rfl) hr (by omega))
        · simp only [‹(x == ⟨#[]⟩) = false›, ‹(x == ⟨#[46]⟩) = false›, Bool.or_false, cond_false, ‹(x == ⟨#[46, 46]⟩) = true›, h0, cond_true] at hr
          rw [e7]; exact rE (hnx out.dropLast _ (.inr rfl) hr (by rw [List.length_dropLast]; omega))
        · simp only [‹(x == ⟨#[]⟩) = false›, ‹(x == ⟨#[46]⟩) = false›, Bool.or_false, cond_false, ‹(x == ⟨#[46, 46]⟩) = false›] at hr
          have g := hnx (out ++ [x]) _ (.inr rfl) hr (by rw [List.length_append, List.length_singleton]; omega)
          unfold lst at g
          rw [List.map_append] at g
          rw [e7]; exact rES 4 g
end Go.Proofs.YtcmhpjnafkpofaaDoor
/- Paths: how long; what is joined. -/
namespace Go.Proofs.YtcmhpjnafkpofaaDoor
open Go Go.Am Go.Proofs
attribute [local irreducible] W WL DL WO RoundEnd
set_option maxRecDepth 10000
set_option maxHeartbeats 4000000
set_option linter.unusedVariables false
set_option linter.unusedSimpArgs false
def wt : List ByteArray → Nat
  | [] => 0
  | x :: r => x.size + 1 + wt r
theorem wt_app : ∀ a b, wt (a ++ b) = wt a + wt b
  | [], b => by simp [wt]
  | x :: a, b => by rw [List.cons_append, wt, wt, wt_app a b]; omega
theorem wt_len : ∀ l, l.length ≤ wt l
  | [] => Nat.le_refl _
  | x :: r => by have := wt_len r; rw [wt, List.length_cons]; omega
theorem wt_split : ∀ l : List UInt8, wt ((splitL l).map ba) = l.length + 1
  | [] => rfl
  | c :: r => by
    have ih := wt_split r
    rw [splitL]
    by_cases h : c = 47
    · rw [if_pos h, List.map_cons, wt, ih]
      show 0 + 1 + _ = r.length + 1 + 1
      omega
    · rw [if_neg h]
      cases hs : splitL r with
      | nil => exact absurd hs (split_ne r)
      | cons x xs =>
        rw [hs, List.map_cons, wt] at ih
        rw [List.map_cons, wt]
        have e1 : (ba x).size = x.length := rfl
        have e2 : (ba (c :: x)).size = x.length + 1 := rfl
        rw [e1] at ih
        rw [e2, List.length_cons]; omega
theorem wt_pieces (s : ByteArray) : wt (pieces s) = s.size + 1 := wt_split s.data.toList
theorem wt_take : ∀ (l : List ByteArray) (k : Nat), wt (l.take k) ≤ wt l
  | [], k => by simp
  | x :: r, 0 => by simp [wt]
  | x :: r, k + 1 => by have := wt_take r k; rw [List.take_succ_cons, wt, wt]; omega
theorem wt_drop (l : List ByteArray) : wt l.dropLast ≤ wt l := by rw [List.dropLast_eq_take]; exact wt_take _ _
theorem wt_clean : ∀ (r out l : List ByteArray), cleanW r out = some l → wt l ≤ wt out + wt r
  | [], out, l, h => by
    rw [cleanW] at h; rw [← Option.some.inj h]; simp [wt]
  | x :: r, out, l, h => by
    rw [cleanW] at h
    rw [wt]
    cases h1 : (x == ⟨#[]⟩ || x == ⟨#[46]⟩) with
    | true => rw [h1] at h; have := wt_clean r out l h; omega
    | false =>
      rw [h1] at h
      cases h2 : x == ⟨#[46, 46]⟩ with
      | true =>
        rw [h2] at h
        cases h3 : out.isEmpty with
        | true => rw [h3] at h; cases h
        | false =>
          rw [h3] at h
          have := wt_clean r out.dropLast l h
          have := wt_drop out; omega
      | false =>
        rw [h2] at h
        have := wt_clean r (out ++ [x]) l h
        rw [wt_app, wt, wt] at this; omega
theorem join_wt : ∀ l : List ByteArray, (Lib.join (l.map (·.data.toList)) [47]).length ≤ wt l
  | [] => Nat.le_refl _
  | x :: r => by
    rw [List.map_cons, Lib.join_length]
    have h : ∀ l : List ByteArray, Lib.lens (l.map (·.data.toList)) + l.length = wt l := by
      intro l
      induction l with
      | nil => rfl
      | cons y l ih =>
        rw [wt, ← ih]
        simp only [Lib.lens, List.map_cons, List.sum_cons, List.length_cons]
        have : y.data.toList.length = y.size := rfl
        omega
    have := h (x :: r)
    rw [List.map_cons, List.length_cons] at this
    rw [List.length_map, List.length_singleton]
    omega
theorem join_size (l : List ByteArray) : (joinB l).size ≤ wt l := join_wt l
/-- what is clean; false: it is none -/
def cleanA (s : ByteArray) : ByteArray × Bool := match cleanW (pieces s) [] with
  | some (x :: r) => (joinB (x :: r), true)
  | _ => (⟨#[]⟩, false)
abbrev pathA (p : ByteArray × Bool) : V := pathV p.1 p.2
theorem refV_A (s : ByteArray) : refV (cleanW (pieces s) []) = pathA (cleanA s) := by
  unfold refV cleanA
  rcases cleanW (pieces s) [] with _ | _ | ⟨x, r⟩ <;> rfl
theorem pieces_lt (s : ByteArray) (hs : s.size < 2 ^ 32) : (pieces s).length < 2 ^ 34 := by
  have := wt_len (pieces s)
  rw [wt_pieces] at this; omega
theorem cleanR [GVals] (s : ByteArray) (hs : s.size < 4294967281) : Comp Tryd.prog 10 [str s] (pathA (cleanA s)) := by
  rw [← refV_A, refV_eq]
  refine files_clean s hs (fun out h => ?_) (pieces_lt s (by omega))
  have h1 := wt_clean _ _ _ h
  have h2 := join_wt out
  rw [wt_pieces] at h1
  rw [show wt [] = 0 from rfl] at h1
  omega
theorem refCleanS [GVals] (ps : List ByteArray) (h : wt ps < 4294967281) : Comp Tryd.prog 25 [lst strrow ps] (refV (cleanW ps [])) := by
  have := wt_len ps
  refine refCleanR ps (by omega) fun out k h1 => ?_
  have h2 := wt_clean _ _ _ h1
  have h3 := join_size (out.take k)
  have h4 := wt_take out k
  rw [show wt [] = 0 from rfl] at h2
  omega
theorem cleanDocR [GVals] (s : ByteArray) (hs : s.size < 4294967280) : Comp Tryd.prog 11 [str s] (pathA (cleanA s)) := by
  have c1 := partsR s (by omega)
  have c2 := refCleanS (pieces s) (by rw [wt_pieces]; omega)
  rw [refV_A] at c2
  generalize cleanA s = q at *
  obtain ⟨q1, q2⟩ := q
  cases q2 <;> dsimp only [pathA] at c2 ⊢
  all_goals refine Spec.body (C := cx [] 9) fits (fn := Tryd.f11) Tryd.func11 rfl (by decide) (by decide) (gI ?_)
  all_goals repeat' (first | ((first | refine C_r ?_ | refine O_r ?_); (conv => whnf); first | (refine ⟨fun hb => ?_, fun hb => ?_⟩ <;> try exact no_way) | refine B_o ?_ | refine fR ?_) | refine C_l (c1) ?_ | refine C_l (c2) ?_ | fail)
  all_goals first | exact ⟨rfl, rfl⟩ | trace_state
/-! a path, as seen from a file -/
theorem split_mid : ∀ a b : List UInt8, splitL (a ++ 47 :: b) = splitL a ++ splitL b
  | [], b => by rw [List.nil_append]; simp [splitL]
  | c :: a, b => by
    have ih := split_mid a b
    rw [List.cons_append, splitL, splitL]
    by_cases h : c = 47
    · rw [if_pos h, if_pos h, ih]; rfl
    · rw [if_neg h, if_neg h, ih]
      cases hs : splitL a with
      | nil => exact absurd hs (split_ne a)
      | cons x xs => rfl
theorem last_cases (s : ByteArray) : (lastSlash s = -1 ∧ ∀ k : Nat, s.data.toList[k]? ≠ some 47) ∨
    ∃ n : Nat, n < s.size ∧ lastSlash s = n ∧ s.data.toList[n]? = some 47 ∧ ∀ k, n < k → s.data.toList[k]? ≠ some 47 := by
  have hz : s.data.toList.length = s.size := rfl
  have hat : ∀ j, j < s.size → ∃ b, s.data.toList[j]? = some b ∧ s.data[j]! = b := by
    intro j hj
    refine ⟨s.data[j], ?_, ?_⟩
    · rw [Array.getElem?_toList]; exact Array.getElem?_eq_getElem hj
    · exact getElem!_pos s.data j hj
  have hne : ∀ j, j < s.size → ((s.data[j]!).toNat : Int) ≠ 47 → s.data.toList[j]? ≠ some 47 := by
    intro j hj h e
    obtain ⟨b, h1, h2⟩ := hat j hj
    rw [e] at h1
    rw [h2, ← Option.some.inj h1] at h
    exact h rfl
  rcases Lib.lastIdx_spec s 47 s.size with ⟨h1, h2⟩ | ⟨n, h1, h2, h3, h4⟩
  · refine .inl ⟨h1, fun k => ?_⟩
    by_cases hk : k < s.size
    · exact hne k hk (h2 k hk)
    · rw [List.getElem?_eq_none (by omega)]; simp
  · refine .inr ⟨n, h1, h2, ?_, fun k hk => ?_⟩
    · obtain ⟨b, g1, g2⟩ := hat n h1
      rw [g2] at h3
      have : b = 47 := UInt8.toNat_inj.1 (by show b.toNat = 47; omega)
      rw [g1, this]
    · by_cases hk2 : k < s.size
      · exact hne k hk2 (h4 k hk hk2)
      · rw [List.getElem?_eq_none (by omega)]; simp
/-- the file's folder, and the path behind it -/
def dirOf (s : ByteArray) : ByteArray := s.extract 0 (lastSlash s + 1).toNat
theorem last_le (s : ByteArray) : 0 ≤ lastSlash s + 1 ∧ lastSlash s + 1 ≤ s.size := by
  rcases last_cases s with ⟨h, _⟩ | ⟨n, h1, h2, _⟩ <;> omega
theorem app_list (a b : ByteArray) : (a ++ b).data.toList = a.data.toList ++ b.data.toList := by
  simp
theorem pieces_dir (s p : ByteArray) : pieces (dirOf s ++ p) = (pieces s).dropLast ++ pieces p := by
  have hz : s.data.toList.length = s.size := rfl
  unfold pieces dirOf
  rw [app_list, Lib.extract_data]
  rcases last_cases s with ⟨h1, h2⟩ | ⟨n, h1, h2, h3, h4⟩
  · rw [h1, split_end s.data.toList h2]; rfl
  · rw [h2]
    have e : s.data.toList = s.data.toList.take n ++ 47 :: s.data.toList.drop (n + 1) := by
      obtain ⟨g1, g2⟩ := List.getElem?_eq_some_iff.1 h3
      conv => lhs; rw [← List.take_append_drop n s.data.toList]
      rw [List.drop_eq_getElem_cons g1, g2]
    have e1 : splitL s.data.toList = splitL (s.data.toList.take n) ++ [s.data.toList.drop (n + 1)] := by
      conv => lhs; rw [e]
      rw [split_mid, split_end (s.data.toList.drop (n + 1)) fun k => by rw [List.getElem?_drop]; exact h4 _ (by omega)]
    have e2 : (s.data.toList.take ((n : Int) + 1).toNat).drop 0 = s.data.toList.take n ++ [47] := by
      rw [show ((n : Int) + 1).toNat = n + 1 by omega, List.drop_zero, List.take_add_one, h3]; rfl
    rw [e1, List.map_append, List.map_singleton, List.dropLast_concat]
    have e3 : ((s.data.toList.drop 0).take (((n : Int) + 1).toNat - 0)) = s.data.toList.take n ++ [47] := by
      rw [List.drop_zero, Nat.sub_zero, show ((n : Int) + 1).toNat = n + 1 by omega, List.take_add_one, h3]; rfl
    first
      | rw [e3, List.append_assoc]; show ((splitL (_ ++ 47 :: p.data.toList)).map ba) = _; rw [split_mid, List.map_append]
      | rw [e2, List.append_assoc]; show ((splitL (_ ++ 47 :: p.data.toList)).map ba) = _; rw [split_mid, List.map_append]
end Go.Proofs.YtcmhpjnafkpofaaDoor
