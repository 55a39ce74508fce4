/- The reader of tokens: a text taken apart. -/
import Derived.Test.YtcmhpjnafkpofaaDoorTk5
set_option linter.unusedVariables false
set_option linter.unusedSimpArgs false
namespace Go.Proofs.YtcmhpjnafkpofaaDoor
open Go Go.Am Go.Proofs
attribute [local irreducible] W WL DL WO RoundEnd
set_option maxRecDepth 10000
set_option maxHeartbeats 4000000
set_option linter.unusedVariables false
set_option linter.unusedSimpArgs false
theorem index_fits (t : List UInt8) : ∀ l : List UInt8, 0 ≤ Lib.index l t → Lib.index l t + t.length ≤ l.length
  | [] => by
    rw [Lib.index]
    cases t with
    | nil => simp
    | cons => simp
  | b :: r => by
    have ih := index_fits t r
    rw [Lib.index, List.length_cons]
    split
    · rename_i h
      have := (List.isPrefixOf_iff_prefix.1 h).length_le
      simp only [List.length_cons] at this
      omega
    · split
      · omega
      · rename_i h1 h2
        have := (index_bound r t).1
        simp only [beq_iff_eq] at h2
        omega
theorem blank_bound (s : ByteArray) (h : (blankF s).2 = true) : 0 ≤ (blankF s).1 ∧ (blankF s).1 ≤ s.size := by
  revert h
  unfold blankF
  cases h1 : preF s twoS with
  | true => intro _; exact run_size notNl s
  | false =>
    cases h2 : preF s openS with
    | true =>
      intro h
      simp only [cond_true, cond_false, decide_eq_true_eq] at h ⊢
      have h3 : 2 ≤ s.size := pre_size h2
      have h4 := index_fits shutS.data.toList (s.extract 2 s.size).data.toList h
      have h5 : (s.extract 2 s.size).data.toList.length = s.size - 2 := by
        show (s.extract 2 s.size).size = _
        simp [ByteArray.size_extract]
      have h6 : shutS.data.toList.length = 2 := rfl
      omega
    | false => intro _; exact run_size whiteF s
theorem run_pos (p : UInt8 → Bool) (s : ByteArray) (b : UInt8) (h0 : s.data.toList[0]? = some b) (h : p b = true) : 1 ≤ runF p s.data.toList 0 := by
  cases hl : s.data.toList with
  | nil => rw [hl] at h0; simp at h0
  | cons x r =>
    rw [hl] at h0
    simp at h0; subst h0
    rw [runF, h, if_pos rfl]
    have := (run_bound p r (0 + 1)).1
    omega
theorem tok_bound (s : ByteArray) (b : UInt8) (h0 : s.data.toList[0]? = some b) {kind n : Int} {t : ByteArray} (h : tokB s b = some (kind, n, t)) : 1 ≤ n ∧ n ≤ s.size := by
  have h1 : 1 ≤ s.size := by
    have := (List.getElem?_eq_some_iff.1 h0).1
    have e : s.size = s.data.toList.length := rfl
    omega
  have hn : 0 ≤ wdN s ∧ wdN s ≤ s.size := run_size innerF s
  have hsn := sign_bound s h1
  unfold tokB at h
  cases k1 : letterF b with
  | true =>
    have := run_pos innerF s b h0 (by unfold innerF; rw [k1]; rfl)
    rw [k1] at h
    simp only [cond_true, Option.some.injEq, Prod.mk.injEq] at h
    unfold wdN at *
    omega
  | false =>
  rw [k1] at h
  simp only [cond_false] at h
  cases k2 : digitF b with
  | true =>
    have := run_pos innerF s b h0 (by unfold innerF; rw [k1, k2]; rfl)
    rw [k2] at h
    simp only [cond_true] at h
    cases k3 : numOk (s.extract 0 (wdN s).toNat) with
    | false => rw [k3] at h; simp at h
    | true =>
      rw [k3] at h
      simp only [cond_true, Option.some.injEq, Prod.mk.injEq] at h
      unfold wdN at *
      omega
  | false =>
  rw [k2] at h
  simp only [cond_false] at h
  cases k3 : (b.toNat == 34) with
  | true =>
    rw [k3] at h
    simp only [cond_true] at h
    have hb := txN_bound s h1
    unfold textF textG at h
    generalize txN s = m at *
    split at h
    · rename_i c hc
      have := (List.getElem?_eq_some_iff.1 hc).1
      have e : s.size = s.data.toList.length := rfl
      cases k4 : (c.toNat == 34) with
      | true =>
        rw [k4] at h
        simp only [cond_true, Option.some.injEq, Prod.mk.injEq] at h
        omega
      | false => rw [k4] at h; simp at h
    · simp at h
  | false =>
  rw [k3] at h
  simp only [cond_false] at h
  cases k4 : (b.toNat == 35) with
  | true =>
    rw [k4] at h
    simp only [cond_true] at h
    have hb : 1 ≤ hsN s ∧ hsN s ≤ s.size := by
      have h1 := run_size innerF (s.extract 1 s.size)
      have h2 : (s.extract 1 s.size).size = s.size - 1 := by simp [ByteArray.size_extract]
      unfold hsN
      omega
    unfold hashF at h
    generalize hsN s = m at *
    cases k5 : ((s.extract 0 m.toNat == inclS) || (s.extract 0 m.toNat == defnS)) with
    | true =>
      rw [k5] at h
      simp only [cond_true, Option.some.injEq, Prod.mk.injEq] at h
      omega
    | false => rw [k5] at h; simp at h
  | false =>
  rw [k4] at h
  simp only [cond_false] at h
  cases k5 : decide (signF s > 0) with
  | true =>
    rw [k5] at h
    rw [decide_eq_true_eq] at k5
    simp only [cond_true, Option.some.injEq, Prod.mk.injEq] at h
    omega
  | false => rw [k5] at h; simp at h
/-- a text taken apart: its tokens, or where it is none -/
def splitP (file : Int) : Nat → ByteArray → Nat × Nat → List Tok → Except (Nat × Nat) (List Tok)
  | 0, _, _, l => .ok l
  | k + 1, s, p, l => match s.data.toList[0]? with
    | none => .ok l
    | some b =>
      bif (blankF s).2 then
        bif decide ((blankF s).1 > 0) then splitP file k (s.extract (blankF s).1.toNat s.size) (walkF p (s.extract 0 (blankF s).1.toNat).data.toList) l
        else match tokB s b with
          | none => .error p
          | some (kind, n, t) => splitP file k (s.extract n.toNat s.size) (walkF p (s.extract 0 n.toNat).data.toList) (l ++ [⟨kind, t, file, p⟩])
      else .error p
def faultV (e file : Int) (p : Nat × Nat) : FV := .agg [.d (.sc (.int .i64 e)), .d (.sc (.int .i64 file)), .d (.sc (.complex .f64 (F p.1) (F p.2)))]
def splitV (file : Int) : Except (Nat × Nat) (List Tok) → V
  | .ok l => .tup [.one (.d (.list (l.map Tok.row))), faultV 0 0 (0, 0)]
  | .error p => .tup [.one (.d (.list [])), faultV 3 file p]
theorem splitR [GVals] (s : ByteArray) (file : Int) (hs : s.size ≤ 20000) : Comp Tryd.prog 44 [str s, int .i64 file] (splitV file (splitP file (s.size + 1) s (1, 1) [])) := by
  generalize hfb : splitV file (splitP file (s.size + 1) s (1, 1) []) = fb
  have b1 : decide ((s.size : Int) > 20000) = false := decide_eq_false (by omega)
  refine Spec.body (C := cx [] 56) fits (fn := Tryd.f44) Tryd.func44 rfl (by decide) (by decide) (gI ?_)
  repeat' (first | ((first | refine C_r ?_ | refine O_r ?_); (conv => whnf); first | (refine ⟨fun hb => ?_, fun hb => ?_⟩ <;> try exact no_way) | refine A_o ?_) | fail)
  refine gA 1 3 false 4 ?_
  refine wLoop [1, 5, 6] 3 (s.size + 2) ?_
  rw [← F_one]
  refine (fun key => key (s.size + 1) s (1, 1) [] (by omega) ⟨by simp only; omega, by simp only; omega⟩ (by simp; omega) hfb.symm :
    (∀ (k : Nat) (s : ByteArray) (p : Nat × Nat) (l : List Tok), s.size < k → (p.1 + s.size ≤ 40000 ∧ p.2 + 2 * s.size ≤ 80000) → l.length + s.size ≤ 40000 → fb = splitV file (splitP file k s p l) →
    WR2 _ _ _ _ _ (k + 1) [(1, int .i64 file), (5, .one (.ptr 0 0)), (6, .one (.ptr 1 0))] [.var [.d (.sc (.int .i64 0)), .d (.sc (.int .i64 0)), .d (.sc (.complex .f64 0 0))], .var [.d (.sc (.string s)), .d (.sc (.int .i64 file)), .d (.sc (.complex .f64 (F p.1) (F p.2))), .arr 2 0 (l.map Tok.row).length], .arr 0 false 4 (l.map Tok.row)]) → _) ?_
  clear hfb hs b1 hb s
  intro k
  induction k with
  | zero => intro s p l hk; omega
  | succ k ih =>
    intro s p l hk hp hl hr
    have hsz : s.size = s.data.toList.length := rfl
    cases hd : s.data.toList with
    | nil =>
      have he : s = ⟨#[]⟩ := by
        obtain ⟨⟨q⟩⟩ := s
        simp at hd; subst hd; rfl
      subst he
      rw [splitP] at hr
      have hr2 : fb = splitV file (.ok l) := hr
      refine wR (gI ?_)
      repeat' (first | ((first | refine C_r ?_ | refine O_r ?_); (conv => whnf); first | (refine ⟨fun hb => ?_, fun hb => ?_⟩ <;> try exact no_way) | refine A_o ?_ | refine fR ?_) | fail)
      exact ⟨by rw [hr2]; unfold splitV faultV; rw [F_zero], rfl⟩
    | cons b r =>
      have h0 : s.data.toList[0]? = some b := by rw [hd]; rfl
      have hne : s ≠ ⟨#[]⟩ := by rintro rfl; simp at hd
      have hne2 : (!(s == ⟨#[]⟩)) = true := by simp [ba_beq, hne]
      have hpos : 1 ≤ s.size := by rw [hsz, hd]; simp
      rw [splitP, h0] at hr
      simp only at hr
      have c1 := blankR s file p l (by omega)
      have hbb := blank_bound s
      have step : ∀ n : Int, 1 ≤ n → n ≤ s.size → (s.extract n.toNat s.size).size + n.toNat = s.size ∧ (walkF p (s.extract 0 n.toNat).data.toList).1 ≤ p.1 + n.toNat ∧ (walkF p (s.extract 0 n.toNat).data.toList).2 ≤ p.2 + n.toNat + 1 := by
        intro n h1 h2
        have e1 : (s.extract n.toNat s.size).size = s.size - n.toNat := by simp [ByteArray.size_extract]
        have e2 : (s.extract 0 n.toNat).data.toList.length = n.toNat := by
          show (s.extract 0 n.toNat).size = _
          simp [ByteArray.size_extract]; omega
        have e3 := walk_len p (s.extract 0 n.toNat).data.toList
        rw [e2] at e3
        omega
      generalize blankF s = q at *
      obtain ⟨n, ok⟩ := q
      simp only at c1 hbb hr
      unfold rdP at c1
      cases ok with
      | false =>
        simp only [cond_false] at hr
        unfold rdS at c1
        refine wR (gI ?_)
        repeat' (first | ((first | refine C_r ?_ | refine O_r ?_); (conv => whnf); first | (refine ⟨fun hb => ?_, fun hb => ?_⟩ <;> try exact no_way) | refine B_o ?_ | refine fR ?_) | refine fun k => WL.cr' [1, 2] [.var [.d (.sc (.string s)), .d (.sc (.int .i64 file)), .d (.sc (.complex .f64 (F p.1) (F p.2))), .arr 1 0 (l.map Tok.row).length], .arr 0 false 4 (l.map Tok.row)] _ c1 rfl rfl rfl rfl rfl ⟨rfl, rfl, trivial⟩ rfl rfl rfl rfl (oW ?_ _) | fail)
        exact ⟨by rw [hr]; rfl, rfl⟩
      | true =>
        have hbb := hbb rfl
        simp only [cond_true] at hr
        cases k1 : decide (n > 0) with
        | true =>
          rw [k1] at hr
          simp only [cond_true] at hr
          have k1' : n > 0 := by simpa using k1
          have c2 := passR s file p l n (by omega) ⟨by omega, by omega⟩ (by omega) hbb.2
          have hst := step n (by omega) hbb.2
          unfold rdP at c2
          unfold rdS at c1 c2
          refine wR (gI ?_)
          repeat' (first | ((first | refine C_r ?_ | refine O_r ?_); (conv => whnf); first | (refine ⟨fun hb => ?_, fun hb => ?_⟩ <;> try exact no_way) | refine B_o ?_ | refine R_o ?_) | refine fun k => WL.cr' [1, 2] [.var [.d (.sc (.string s)), .d (.sc (.int .i64 file)), .d (.sc (.complex .f64 (F p.1) (F p.2))), .arr 1 0 (l.map Tok.row).length], .arr 0 false 4 (l.map Tok.row)] _ c1 rfl rfl rfl rfl rfl ⟨rfl, rfl, trivial⟩ rfl rfl rfl rfl (oW ?_ _) | refine fun k => WL.cr' [1, 2] [.var [.d (.sc (.string s)), .d (.sc (.int .i64 file)), .d (.sc (.complex .f64 (F p.1) (F p.2))), .arr 1 0 (l.map Tok.row).length], .arr 0 false 4 (l.map Tok.row)] _ c2 rfl rfl rfl rfl rfl ⟨rfl, rfl, trivial⟩ rfl rfl rfl rfl (oW ?_ _) | fail)
          refine rE (ih _ _ l ?_ ?_ ?_ hr)
          · omega
          · omega
          · omega
        | false =>
          rw [k1] at hr
          simp only [cond_false] at hr
          have c3 := tokenR s b file p l (by omega) h0 ⟨by omega, by omega⟩ (by omega)
          have htb := @tok_bound s b h0
          generalize tokB s b = q at *
          unfold rdP at c3
          cases q with
          | none =>
            simp only at hr
            simp only [outS] at c3
            unfold rdS at c1 c3
            refine wR (gI ?_)
            repeat' (first | ((first | refine C_r ?_ | refine O_r ?_); (conv => whnf); first | (refine ⟨fun hb => ?_, fun hb => ?_⟩ <;> try exact no_way) | refine B_o ?_ | refine fR ?_) | refine fun k => WL.cr' [1, 2] [.var [.d (.sc (.string s)), .d (.sc (.int .i64 file)), .d (.sc (.complex .f64 (F p.1) (F p.2))), .arr 1 0 (l.map Tok.row).length], .arr 0 false 4 (l.map Tok.row)] _ c1 rfl rfl rfl rfl rfl ⟨rfl, rfl, trivial⟩ rfl rfl rfl rfl (oW ?_ _) | refine fun k => WL.cr' [1, 2] [.var [.d (.sc (.string s)), .d (.sc (.int .i64 file)), .d (.sc (.complex .f64 (F p.1) (F p.2))), .arr 1 0 (l.map Tok.row).length], .arr 0 false 4 (l.map Tok.row)] _ c3 rfl rfl rfl rfl rfl ⟨rfl, rfl, trivial⟩ rfl rfl rfl rfl (oW ?_ _) | fail)
            exact ⟨by rw [hr]; rfl, rfl⟩
          | some q =>
            obtain ⟨tk, tn, tt⟩ := q
            have htb := htb rfl
            simp only at hr
            simp only [outS] at c3
            have hst := step tn htb.1 htb.2
            unfold rdS at c1 c3
            refine wR (gI ?_)
            repeat' (first | ((first | refine C_r ?_ | refine O_r ?_); (conv => whnf); first | (refine ⟨fun hb => ?_, fun hb => ?_⟩ <;> try exact no_way) | refine B_o ?_ | refine R_o ?_) | refine fun k => WL.cr' [1, 2] [.var [.d (.sc (.string s)), .d (.sc (.int .i64 file)), .d (.sc (.complex .f64 (F p.1) (F p.2))), .arr 1 0 (l.map Tok.row).length], .arr 0 false 4 (l.map Tok.row)] _ c1 rfl rfl rfl rfl rfl ⟨rfl, rfl, trivial⟩ rfl rfl rfl rfl (oW ?_ _) | refine fun k => WL.cr' [1, 2] [.var [.d (.sc (.string s)), .d (.sc (.int .i64 file)), .d (.sc (.complex .f64 (F p.1) (F p.2))), .arr 1 0 (l.map Tok.row).length], .arr 0 false 4 (l.map Tok.row)] _ c3 rfl rfl rfl rfl rfl ⟨rfl, rfl, trivial⟩ rfl rfl rfl rfl (oW ?_ _) | fail)
            refine rE (ih _ _ _ ?_ ?_ ?_ hr)
            · omega
            · omega
            · simp; omega
end Go.Proofs.YtcmhpjnafkpofaaDoor
