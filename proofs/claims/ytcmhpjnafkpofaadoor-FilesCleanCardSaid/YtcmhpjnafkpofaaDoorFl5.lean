/- Paths: how long; what is joined. -/
import Derived.Test.YtcmhpjnafkpofaaDoorFl4
set_option linter.unusedVariables false
set_option linter.unusedSimpArgs false
namespace Go.Proofs.YtcmhpjnafkpofaaDoor
open Go Go.Am Go.Proofs
attribute [local irreducible] W WL DL WO RoundEnd
set_option maxRecDepth 10000
set_option maxHeartbeats 4000000
set_option linter.unusedVariables false
set_option linter.unusedSimpArgs false
def wt : List ByteArray → Nat
  | [] => 0
  | x :: r => x.size + 1 + wt r
theorem wt_app : ∀ a b, wt (a ++ b) = wt a + wt b
  | [], b => by simp [wt]
  | x :: a, b => by rw [List.cons_append, wt, wt, wt_app a b]; omega
theorem wt_len : ∀ l, l.length ≤ wt l
  | [] => Nat.le_refl _
  | x :: r => by have := wt_len r; rw [wt, List.length_cons]; omega
theorem wt_split : ∀ l : List UInt8, wt ((splitL l).map ba) = l.length + 1
  | [] => rfl
  | c :: r => by
    have ih := wt_split r
    rw [splitL]
    by_cases h : c = 47
    · rw [if_pos h, List.map_cons, wt, ih]
      show 0 + 1 + _ = r.length + 1 + 1
      omega
    · rw [if_neg h]
      cases hs : splitL r with
      | nil => exact absurd hs (split_ne r)
      | cons x xs =>
        rw [hs, List.map_cons, wt] at ih
        rw [List.map_cons, wt]
        have e1 : (ba x).size = x.length := rfl
        have e2 : (ba (c :: x)).size = x.length + 1 := rfl
        rw [e1] at ih
        rw [e2, List.length_cons]; omega
theorem wt_pieces (s : ByteArray) : wt (pieces s) = s.size + 1 := wt_split s.data.toList
theorem wt_take : ∀ (l : List ByteArray) (k : Nat), wt (l.take k) ≤ wt l
  | [], k => by simp
  | x :: r, 0 => by simp [wt]
  | x :: r, k + 1 => by have := wt_take r k; rw [List.take_succ_cons, wt, wt]; omega
theorem wt_drop (l : List ByteArray) : wt l.dropLast ≤ wt l := by rw [List.dropLast_eq_take]; exact wt_take _ _
theorem wt_clean : ∀ (r out l : List ByteArray), cleanW r out = some l → wt l ≤ wt out + wt r
  | [], out, l, h => by
    rw [cleanW] at h; rw [← Option.some.inj h]; simp [wt]
  | x :: r, out, l, h => by
    rw [cleanW] at h
    rw [wt]
    cases h1 : (x == ⟨#[]⟩ || x == ⟨#[46]⟩) with
    | true => rw [h1] at h; have := wt_clean r out l h; omega
    | false =>
      rw [h1] at h
      cases h2 : x == ⟨#[46, 46]⟩ with
      | true =>
        rw [h2] at h
        cases h3 : out.isEmpty with
        | true => rw [h3] at h; cases h
        | false =>
          rw [h3] at h
          have := wt_clean r out.dropLast l h
          have := wt_drop out; omega
      | false =>
        rw [h2] at h
        have := wt_clean r (out ++ [x]) l h
        rw [wt_app, wt, wt] at this; omega
theorem join_wt : ∀ l : List ByteArray, (Lib.join (l.map (·.data.toList)) [47]).length ≤ wt l
  | [] => Nat.le_refl _
  | x :: r => by
    rw [List.map_cons, Lib.join_length]
    have h : ∀ l : List ByteArray, Lib.lens (l.map (·.data.toList)) + l.length = wt l := by
      intro l
      induction l with
      | nil => rfl
      | cons y l ih =>
        rw [wt, ← ih]
        simp only [Lib.lens, List.map_cons, List.sum_cons, List.length_cons]
        have : y.data.toList.length = y.size := rfl
        omega
    have := h (x :: r)
    rw [List.map_cons, List.length_cons] at this
    rw [List.length_map, List.length_singleton]
    omega
theorem join_size (l : List ByteArray) : (joinB l).size ≤ wt l := join_wt l
/-- what is clean; false: it is none -/
def cleanA (s : ByteArray) : ByteArray × Bool := match cleanW (pieces s) [] with
  | some (x :: r) => (joinB (x :: r), true)
  | _ => (⟨#[]⟩, false)
abbrev pathA (p : ByteArray × Bool) : V := pathV p.1 p.2
theorem refV_A (s : ByteArray) : refV (cleanW (pieces s) []) = pathA (cleanA s) := by
  unfold refV cleanA
  rcases cleanW (pieces s) [] with _ | _ | ⟨x, r⟩ <;> rfl
theorem pieces_lt (s : ByteArray) (hs : s.size < 2 ^ 32) : (pieces s).length < 2 ^ 34 := by
  have := wt_len (pieces s)
  rw [wt_pieces] at this; omega
theorem cleanR [GVals] (s : ByteArray) (hs : s.size < 4294967281) : Comp Tryd.prog 10 [str s] (pathA (cleanA s)) := by
  rw [← refV_A, refV_eq]
  refine files_clean s hs (fun out h => ?_) (pieces_lt s (by omega))
  have h1 := wt_clean _ _ _ h
  have h2 := join_wt out
  rw [wt_pieces] at h1
  rw [show wt [] = 0 from rfl] at h1
  omega
theorem refCleanS [GVals] (ps : List ByteArray) (h : wt ps < 4294967281) : Comp Tryd.prog 25 [lst strrow ps] (refV (cleanW ps [])) := by
  have := wt_len ps
  refine refCleanR ps (by omega) fun out k h1 => ?_
  have h2 := wt_clean _ _ _ h1
  have h3 := join_size (out.take k)
  have h4 := wt_take out k
  rw [show wt [] = 0 from rfl] at h2
  omega
theorem cleanDocR [GVals] (s : ByteArray) (hs : s.size < 4294967280) : Comp Tryd.prog 11 [str s] (pathA (cleanA s)) := by
  have c1 := partsR s (by omega)
  have c2 := refCleanS (pieces s) (by rw [wt_pieces]; omega)
  rw [refV_A] at c2
  generalize cleanA s = q at *
  obtain ⟨q1, q2⟩ := q
  cases q2 <;> dsimp only [pathA] at c2 ⊢
  all_goals refine Spec.body (C := cx [] 9) fits (fn := Tryd.f11) Tryd.func11 rfl (by decide) (by decide) (gI ?_)
  all_goals repeat' (first | ((first | refine C_r ?_ | refine C0_r ?_ | refine O_r ?_ | refine R_r ?_); (conv => whnf); first | (refine ⟨fun hb => ?_, fun hb => ?_⟩ <;> try exact no_way) | refine A_o ?_ | refine B_o ?_ | refine C_o ?_ | refine R_o ?_ | refine fR ?_ | refine fRk ?_ | refine F_o ?_) | refine C_l (c1) ?_ | refine C_l (c2) ?_ | refine SA_l ?_ | refine V_l ?_ | refine L_l ?_ | refine Q_l ?_ | refine X_l ?_ | refine Xa_l ?_ | refine Xs_l ?_ | refine K_l ?_ | refine Ka_l ?_ | refine Lk_l ?_ | refine Up_l ?_ | refine Del_l ?_ | refine St_l ?_ | refine LU_l ?_ | refine Xw_l ?_ | refine Le_l ?_ | refine Se_l ?_ | refine M_l ?_ | refine A_l ?_ | refine A0_l ?_ | refine A1_l ?_ | refine Mk_l ?_ | refine Kz_l ?_ | refine W_l ?_ | refine C_d (c1) ?_ | refine C_d (c2) ?_ | refine SA_d ?_ | refine V_d ?_ | refine L_d ?_ | refine Q_d ?_ | refine X_d ?_ | refine Xs_d ?_ | refine K_d ?_ | refine Ka_d ?_ | refine Lk_d ?_ | refine Up_d ?_ | refine A_d ?_ | refine A0_d ?_ | refine St_d ?_ | refine LU_d ?_ | refine Xw_d ?_ | refine Le_d ?_ | refine Se_d ?_ | refine M_d ?_ | refine Mk_d ?_ | refine N_d ?_ | refine Kz_d ?_ | refine W_d ?_ | fail)
  all_goals first | exact ⟨rfl, rfl⟩ | trace_state
/-! a path, as seen from a file -/
theorem split_mid : ∀ a b : List UInt8, splitL (a ++ 47 :: b) = splitL a ++ splitL b
  | [], b => by rw [List.nil_append]; simp [splitL]
  | c :: a, b => by
    have ih := split_mid a b
    rw [List.cons_append, splitL, splitL]
    by_cases h : c = 47
    · rw [if_pos h, if_pos h, ih]; rfl
    · rw [if_neg h, if_neg h, ih]
      cases hs : splitL a with
      | nil => exact absurd hs (split_ne a)
      | cons x xs => rfl
theorem last_cases (s : ByteArray) : (lastSlash s = -1 ∧ ∀ k : Nat, s.data.toList[k]? ≠ some 47) ∨
    ∃ n : Nat, n < s.size ∧ lastSlash s = n ∧ s.data.toList[n]? = some 47 ∧ ∀ k, n < k → s.data.toList[k]? ≠ some 47 := by
  have hz : s.data.toList.length = s.size := rfl
  have hat : ∀ j, j < s.size → ∃ b, s.data.toList[j]? = some b ∧ s.data[j]! = b := by
    intro j hj
    refine ⟨s.data[j], ?_, ?_⟩
    · rw [Array.getElem?_toList]; exact Array.getElem?_eq_getElem hj
    · exact getElem!_pos s.data j hj
  have hne : ∀ j, j < s.size → ((s.data[j]!).toNat : Int) ≠ 47 → s.data.toList[j]? ≠ some 47 := by
    intro j hj h e
    obtain ⟨b, h1, h2⟩ := hat j hj
    rw [e] at h1
    rw [h2, ← Option.some.inj h1] at h
    exact h rfl
  rcases Lib.lastIdx_spec s 47 s.size with ⟨h1, h2⟩ | ⟨n, h1, h2, h3, h4⟩
  · refine .inl ⟨h1, fun k => ?_⟩
    by_cases hk : k < s.size
    · exact hne k hk (h2 k hk)
    · rw [List.getElem?_eq_none (by omega)]; simp
  · refine .inr ⟨n, h1, h2, ?_, fun k hk => ?_⟩
    · obtain ⟨b, g1, g2⟩ := hat n h1
      rw [g2] at h3
      have : b = 47 := UInt8.toNat_inj.1 (by show b.toNat = 47; omega)
      rw [g1, this]
    · by_cases hk2 : k < s.size
      · exact hne k hk2 (h4 k hk hk2)
      · rw [List.getElem?_eq_none (by omega)]; simp
/-- the file's folder, and the path behind it -/
def dirOf (s : ByteArray) : ByteArray := s.extract 0 (lastSlash s + 1).toNat
theorem last_le (s : ByteArray) : 0 ≤ lastSlash s + 1 ∧ lastSlash s + 1 ≤ s.size := by
  rcases last_cases s with ⟨h, _⟩ | ⟨n, h1, h2, _⟩ <;> omega
theorem app_list (a b : ByteArray) : (a ++ b).data.toList = a.data.toList ++ b.data.toList := by
  simp
theorem pieces_dir (s p : ByteArray) : pieces (dirOf s ++ p) = (pieces s).dropLast ++ pieces p := by
  have hz : s.data.toList.length = s.size := rfl
  unfold pieces dirOf
  rw [app_list, Lib.extract_data]
  rcases last_cases s with ⟨h1, h2⟩ | ⟨n, h1, h2, h3, h4⟩
  · rw [h1, split_end s.data.toList h2]; rfl
  · rw [h2]
    have e : s.data.toList = s.data.toList.take n ++ 47 :: s.data.toList.drop (n + 1) := by
      obtain ⟨g1, g2⟩ := List.getElem?_eq_some_iff.1 h3
      conv => lhs; rw [← List.take_append_drop n s.data.toList]
      rw [List.drop_eq_getElem_cons g1, g2]
    have e1 : splitL s.data.toList = splitL (s.data.toList.take n) ++ [s.data.toList.drop (n + 1)] := by
      conv => lhs; rw [e]
      rw [split_mid, split_end (s.data.toList.drop (n + 1)) fun k => by rw [List.getElem?_drop]; exact h4 _ (by omega)]
    have e2 : (s.data.toList.take ((n : Int) + 1).toNat).drop 0 = s.data.toList.take n ++ [47] := by
      rw [show ((n : Int) + 1).toNat = n + 1 by omega, List.drop_zero, List.take_add_one, h3]; rfl
    rw [e1, List.map_append, List.map_singleton, List.dropLast_concat]
    have e3 : ((s.data.toList.drop 0).take (((n : Int) + 1).toNat - 0)) = s.data.toList.take n ++ [47] := by
      rw [List.drop_zero, Nat.sub_zero, show ((n : Int) + 1).toNat = n + 1 by omega, List.take_add_one, h3]; rfl
    first
      | rw [e3, List.append_assoc]; show ((splitL (_ ++ 47 :: p.data.toList)).map ba) = _; rw [split_mid, List.map_append]
      | rw [e2, List.append_assoc]; show ((splitL (_ ++ 47 :: p.data.toList)).map ba) = _; rw [split_mid, List.map_append]
end Go.Proofs.YtcmhpjnafkpofaaDoor
