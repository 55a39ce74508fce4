/- Paths: the document's parts, and what it takes for clean. -/
import Derived.Test.YtcmhpjnafkpofaaDoorFl2
set_option linter.unusedVariables false
set_option linter.unusedSimpArgs false
namespace Go.Proofs.YtcmhpjnafkpofaaDoor
open Go Go.Am Go.Proofs
attribute [local irreducible] W WL DL WO RoundEnd
set_option maxRecDepth 10000
set_option maxHeartbeats 4000000
set_option linter.unusedVariables false
set_option linter.unusedSimpArgs false
theorem split_at : ∀ (n : Nat) (l : List UInt8), (∀ k, k < n → l[k]? ≠ some 47) → l[n]? = some 47 → splitL l = l.take n :: splitL (l.drop (n + 1))
  | 0, l, _, h => by
    cases l with
    | nil => cases h
    | cons c r =>
      have : c = 47 := Option.some.inj h
      subst this
      rw [splitL, if_pos rfl]; rfl
  | n + 1, l, hn, h => by
    cases l with
    | nil => cases h
    | cons c r =>
      have hc : c ≠ 47 := fun e => hn 0 (by omega) (by rw [e]; rfl)
      have ih := split_at n r (fun k hk => hn (k + 1) (by omega)) h
      rw [splitL, if_neg hc, ih]; rfl
theorem split_end : ∀ l : List UInt8, (∀ k : Nat, l[k]? ≠ some 47) → splitL l = [l]
  | [], _ => rfl
  | c :: r, h => by
    have hc : c ≠ 47 := fun e => h 0 (by rw [e]; rfl)
    rw [splitL, if_neg hc, split_end r fun k => h (k + 1)]
theorem ext_ba (s : ByteArray) (a b : Nat) : s.extract a b = ba ((s.data.toList.drop a).take (b - a)) := by
  have h : (s.extract a b).data.toList = (s.data.toList.drop a).take (b - a) := by
    rw [Lib.extract_data]
  rw [← h]; rfl
structure PartI (s : ByteArray) (done : List ByteArray) (fr i : Nat) : Prop where
  le : fr ≤ i
  no : ∀ k, fr ≤ k → k < i → s.data.toList[k]? ≠ some 47
  eq : pieces s = done ++ (splitL (s.data.toList.drop fr)).map ba
theorem part_at {s : ByteArray} {done : List ByteArray} {fr i : Nat} (h : PartI s done fr i) (hi : s.data.toList[i]? = some 47) : PartI s (done ++ [s.extract fr i]) (i + 1) (i + 1) := by
  have hle := h.le
  refine ⟨Nat.le_refl _, fun k h1 h2 => by omega, ?_⟩
  rw [h.eq, split_at (i - fr) (s.data.toList.drop fr) (fun k hk => by rw [List.getElem?_drop]; exact h.no _ (by omega) (by omega)) (by rw [List.getElem?_drop, show fr + (i - fr) = i by omega]; exact hi)]
  rw [List.drop_drop, show fr + (i - fr + 1) = i + 1 by omega, List.map_cons, ext_ba, List.append_assoc]; rfl
theorem part_no {s : ByteArray} {done : List ByteArray} {fr i : Nat} (h : PartI s done fr i) (hi : s.data.toList[i]? ≠ some 47) : PartI s done fr (i + 1) := by
  have hle := h.le
  refine ⟨by omega, fun k h1 h2 => ?_, h.eq⟩
  by_cases e : k = i
  · rw [e]; exact hi
  · exact h.no k h1 (by omega)
theorem part_end {s : ByteArray} {done : List ByteArray} {fr : Nat} (h : PartI s done fr s.size) : pieces s = done ++ [s.extract fr s.size] := by
  have hle := h.le
  have hz : s.data.toList.length = s.size := rfl
  rw [h.eq, split_end]
  · rw [ext_ba, List.take_of_length_le (by rw [List.length_drop]; omega)]; rfl
  · intro k
    rw [List.getElem?_drop]
    by_cases hk : fr + k < s.size
    · exact h.no _ (by omega) hk
    · rw [List.getElem?_eq_none (by omega)]; simp
theorem partsR [GVals] (s : ByteArray) (hs : s.size < 2 ^ 33) : Comp Tryd.prog 26 [str s, int .u8 47] (lst strrow (pieces s)) := by
  have hz : s.data.toList.length = s.size := rfl
  generalize hfb : pieces s = fb
  refine Spec.body (C := cx [(5, false)] 35) fits (fn := Tryd.f26) Tryd.func26 rfl (by decide) (by decide) (gI ?_)
  repeat' (first | ((first | refine C_r ?_ | refine C0_r ?_ | refine O_r ?_ | refine R_r ?_); (conv => whnf); first | (refine ⟨fun hb => ?_, fun hb => ?_⟩ <;> try exact no_way) | refine A_o ?_ | refine B_o ?_ | refine C_o ?_ | refine R_o ?_ | refine fR ?_ | refine fRk ?_ | refine F_o ?_) | refine SA_l ?_ | refine V_l ?_ | refine L_l ?_ | refine Q_l ?_ | refine X_l ?_ | refine Xa_l ?_ | refine Xs_l ?_ | refine K_l ?_ | refine Ka_l ?_ | refine Lk_l ?_ | refine Up_l ?_ | refine Del_l ?_ | refine St_l ?_ | refine LU_l ?_ | refine Xw_l ?_ | refine Le_l ?_ | refine Se_l ?_ | refine M_l ?_ | refine A_l ?_ | refine A0_l ?_ | refine A1_l ?_ | refine Mk_l ?_ | refine Kz_l ?_ | refine W_l ?_ | refine SA_d ?_ | refine V_d ?_ | refine L_d ?_ | refine Q_d ?_ | refine X_d ?_ | refine Xs_d ?_ | refine K_d ?_ | refine Ka_d ?_ | refine Lk_d ?_ | refine Up_d ?_ | refine A_d ?_ | refine A0_d ?_ | refine St_d ?_ | refine LU_d ?_ | refine Xw_d ?_ | refine Le_d ?_ | refine Se_d ?_ | refine M_d ?_ | refine Mk_d ?_ | refine N_d ?_ | refine Kz_d ?_ | refine W_d ?_ | fail)
  refine wLoop [0, 1, 5, 6, 7] 1 (s.size + 1 + 1) ?_
  refine (fun key => key (s.size + 1) 0 0 [] rfl (Nat.le_refl _) (fun _ => ⟨Nat.le_refl _, fun k h1 h2 => by omega, by rw [List.drop_zero]; rfl⟩) (fun h => by omega) :
    (∀ (c i fr : Nat) (done : List ByteArray), c + i = s.size + 1 → done.length ≤ i → (i ≤ s.size → PartI s done fr i) → (i = s.size + 1 → pieces s = done) →
    WR2 _ _ _ _ _ (c + 1) [(0, str s), (1, int .u8 47), (5, .one (.arr 0 0 (done.map strrow).length)), (6, int .i64 fr), (7, int .i64 i)] [.arr 0 false 1 (done.map strrow)]) → _) ?_
  intro c
  induction c with
  | zero =>
    intro i fr done hi hdl hP hE
    have q : decide ((i : Int) ≤ (s.size : Int)) = false := by rw [decide_eq_false_iff_not]; omega
    rw [hE (by omega)] at hfb
    refine wR (gI ?_)
    repeat' (first | ((first | refine C_r ?_ | refine C0_r ?_ | refine O_r ?_ | refine R_r ?_); (conv => whnf); first | (refine ⟨fun hb => ?_, fun hb => ?_⟩ <;> try exact no_way) | refine A_o ?_ | refine B_o ?_ | refine C_o ?_ | refine R_o ?_ | refine fR ?_ | refine fRk ?_ | refine F_o ?_) | refine SA_l ?_ | refine V_l ?_ | refine L_l ?_ | refine Q_l ?_ | refine X_l ?_ | refine Xa_l ?_ | refine Xs_l ?_ | refine K_l ?_ | refine Ka_l ?_ | refine Lk_l ?_ | refine Up_l ?_ | refine Del_l ?_ | refine St_l ?_ | refine LU_l ?_ | refine Xw_l ?_ | refine Le_l ?_ | refine Se_l ?_ | refine M_l ?_ | refine A_l ?_ | refine A0_l ?_ | refine A1_l ?_ | refine Mk_l ?_ | refine Kz_l ?_ | refine W_l ?_ | refine SA_d ?_ | refine V_d ?_ | refine L_d ?_ | refine Q_d ?_ | refine X_d ?_ | refine Xs_d ?_ | refine K_d ?_ | refine Ka_d ?_ | refine Lk_d ?_ | refine Up_d ?_ | refine A_d ?_ | refine A0_d ?_ | refine St_d ?_ | refine LU_d ?_ | refine Xw_d ?_ | refine Le_d ?_ | refine Se_d ?_ | refine M_d ?_ | refine Mk_d ?_ | refine N_d ?_ | refine Kz_d ?_ | refine W_d ?_ | fail)
    exact ⟨by rw [← hfb]; rfl, rfl⟩
  | succ c ih =>
    intro i fr done hi hdl hP hE
    have hP := hP (by omega)
    have hle := hP.le
    have q : decide ((i : Int) ≤ (s.size : Int)) = true := by rw [decide_eq_true_eq]; omega
    have hdl2 : (done.map strrow).length < 2 ^ 34 := by rw [List.length_map]; omega
    have e7 : IntKind.i64.wrap ((i : Int) + 1) = ((i + 1 : Nat) : Int) := by rw [wrap_ok (by omega) (by omega)]; omega
    have hex : s.extract ((fr : Nat) : Int).toNat ((i : Nat) : Int).toNat = s.extract fr i := rfl
    by_cases hie : i = s.size
    · have q2 : ((i : Int) == (s.size : Int)) = true := by rw [beq_iff_eq, hie]
      have hend : pieces s = done ++ [s.extract fr i] := by rw [hie] at hP ⊢; exact part_end hP
      have g := ih (i + 1) (i + 1) (done ++ [s.extract fr i]) (by omega) (by rw [List.length_append, List.length_singleton]; omega) (fun h => by omega) (fun _ => hend)
      rw [List.map_append] at g
      clear ih
      refine wR (gI ?_)
      repeat' (first | ((first | refine C_r ?_ | refine C0_r ?_ | refine O_r ?_ | refine R_r ?_); (conv => whnf); first | (refine ⟨fun hb => ?_, fun hb => ?_⟩ <;> try exact no_way) | refine A_o ?_ | refine B_o ?_ | refine C_o ?_ | refine R_o ?_ | refine fR ?_ | refine fRk ?_ | refine F_o ?_) | refine SA_l ?_ | refine V_l ?_ | refine L_l ?_ | refine Q_l ?_ | refine X_l ?_ | refine Xa_l ?_ | refine Xs_l ?_ | refine K_l ?_ | refine Ka_l ?_ | refine Lk_l ?_ | refine Up_l ?_ | refine Del_l ?_ | refine St_l ?_ | refine LU_l ?_ | refine Xw_l ?_ | refine Le_l ?_ | refine Se_l ?_ | refine M_l ?_ | refine A_l ?_ | refine A0_l ?_ | refine A1_l ?_ | refine Mk_l ?_ | refine Kz_l ?_ | refine W_l ?_ | refine SA_d ?_ | refine V_d ?_ | refine L_d ?_ | refine Q_d ?_ | refine X_d ?_ | refine Xs_d ?_ | refine K_d ?_ | refine Ka_d ?_ | refine Lk_d ?_ | refine Up_d ?_ | refine A_d ?_ | refine A0_d ?_ | refine St_d ?_ | refine LU_d ?_ | refine Xw_d ?_ | refine Le_d ?_ | refine Se_d ?_ | refine M_d ?_ | refine Mk_d ?_ | refine N_d ?_ | refine Kz_d ?_ | refine W_d ?_ | fail)
      rw [e7]; exact rE g
    · have q2 : ((i : Int) == (s.size : Int)) = false := by rw [beq_eq_false_iff_ne]; omega
      obtain ⟨b, hb⟩ : ∃ b, s.data.toList[((i : Nat) : Int).toNat]? = some b := ⟨_, List.getElem?_eq_getElem (by rw [hz]; show i < s.size; omega)⟩
      have hb2 : s.data.toList[i]? = some b := hb
      cases h47 : ((b.toNat : Int) == 47) with
      | true =>
        have hb47 : b = 47 := by
          rw [beq_iff_eq] at h47
          exact UInt8.toNat_inj.1 (by show b.toNat = 47; omega)
        subst hb47
        have g := ih (i + 1) (i + 1) (done ++ [s.extract fr i]) (by omega) (by rw [List.length_append, List.length_singleton]; omega) (fun _ => part_at hP hb2) (fun h => by omega)
        rw [List.map_append] at g
        clear ih
        refine wR (gI ?_)
        repeat' (first | ((first | refine C_r ?_ | refine C0_r ?_ | refine O_r ?_ | refine R_r ?_); (conv => whnf); first | (refine ⟨fun hb => ?_, fun hb => ?_⟩ <;> try exact no_way) | refine A_o ?_ | refine B_o ?_ | refine C_o ?_ | refine R_o ?_ | refine fR ?_ | refine fRk ?_ | refine F_o ?_) | refine SA_l ?_ | refine V_l ?_ | refine L_l ?_ | refine Q_l ?_ | refine X_l ?_ | refine Xa_l ?_ | refine Xs_l ?_ | refine K_l ?_ | refine Ka_l ?_ | refine Lk_l ?_ | refine Up_l ?_ | refine Del_l ?_ | refine St_l ?_ | refine LU_l ?_ | refine Xw_l ?_ | refine Le_l ?_ | refine Se_l ?_ | refine M_l ?_ | refine A_l ?_ | refine A0_l ?_ | refine A1_l ?_ | refine Mk_l ?_ | refine Kz_l ?_ | refine W_l ?_ | refine SA_d ?_ | refine V_d ?_ | refine L_d ?_ | refine Q_d ?_ | refine X_d ?_ | refine Xs_d ?_ | refine K_d ?_ | refine Ka_d ?_ | refine Lk_d ?_ | refine Up_d ?_ | refine A_d ?_ | refine A0_d ?_ | refine St_d ?_ | refine LU_d ?_ | refine Xw_d ?_ | refine Le_d ?_ | refine Se_d ?_ | refine M_d ?_ | refine Mk_d ?_ | refine N_d ?_ | refine Kz_d ?_ | refine W_d ?_ | fail)
        rw [e7]; exact rE g
      | false =>
        have hb47 : s.data.toList[i]? ≠ some 47 := by
          rw [hb2]
          intro e
          rw [Option.some.inj e] at h47
          exact absurd h47 (by decide)
        have g := ih (i + 1) fr done (by omega) (by omega) (fun _ => part_no hP hb47) (fun h => by omega)
        clear ih
        refine wR (gI ?_)
        repeat' (first | ((first | refine C_r ?_ | refine C0_r ?_ | refine O_r ?_ | refine R_r ?_); (conv => whnf); first | (refine ⟨fun hb => ?_, fun hb => ?_⟩ <;> try exact no_way) | refine A_o ?_ | refine B_o ?_ | refine C_o ?_ | refine R_o ?_ | refine fR ?_ | refine fRk ?_ | refine F_o ?_) | refine SA_l ?_ | refine V_l ?_ | refine L_l ?_ | refine Q_l ?_ | refine X_l ?_ | refine Xa_l ?_ | refine Xs_l ?_ | refine K_l ?_ | refine Ka_l ?_ | refine Lk_l ?_ | refine Up_l ?_ | refine Del_l ?_ | refine St_l ?_ | refine LU_l ?_ | refine Xw_l ?_ | refine Le_l ?_ | refine Se_l ?_ | refine M_l ?_ | refine A_l ?_ | refine A0_l ?_ | refine A1_l ?_ | refine Mk_l ?_ | refine Kz_l ?_ | refine W_l ?_ | refine SA_d ?_ | refine V_d ?_ | refine L_d ?_ | refine Q_d ?_ | refine X_d ?_ | refine Xs_d ?_ | refine K_d ?_ | refine Ka_d ?_ | refine Lk_d ?_ | refine Up_d ?_ | refine A_d ?_ | refine A0_d ?_ | refine St_d ?_ | refine LU_d ?_ | refine Xw_d ?_ | refine Le_d ?_ | refine Se_d ?_ | refine M_d ?_ | refine Mk_d ?_ | refine N_d ?_ | refine Kz_d ?_ | refine W_d ?_ | fail)
        rw [e7]; exact rE g
/-! the document's way -/
def refV (o : Option (List ByteArray)) : V := match o with
  | some (x :: r) => pathV (joinB (x :: r)) true
  | _ => pathV ⟨#[]⟩ false
theorem refV_eq (o : Option (List ByteArray)) : refV o = cleanV o := by
  cases o with
  | none => rfl
  | some l =>
    cases l with
    | nil => rfl
    | cons x r =>
      show pathV _ true = pathV _ (decide (((r.length + 1 : Nat) : Int) > 0))
      rw [show decide (((r.length + 1 : Nat) : Int) > 0) = true from by rw [decide_eq_true_eq]; omega]
end Go.Proofs.YtcmhpjnafkpofaaDoor
