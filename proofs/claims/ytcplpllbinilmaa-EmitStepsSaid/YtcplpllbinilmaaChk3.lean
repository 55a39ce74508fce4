/- The document's checker: all of it, for a filter that looks at no cells. -/
import Derived.Test.YtcplpllbinilmaaChk2
set_option linter.unusedVariables false
set_option linter.unusedSimpArgs false
namespace Go.Proofs.Ytcplpllbinilmaa
open Go Go.Am Go.Proofs
attribute [local irreducible] W WL DL WO RoundEnd
set_option maxRecDepth 10000
set_option maxHeartbeats 4000000
set_option linter.unusedVariables false
set_option linter.unusedSimpArgs false
theorem takeAll (rows : List (List D)) : (rows.take ((some (rows.length : Int)).getD (rows.length : Int)).toNat).drop ((none : Option Int).getD 0).toNat = rows := by
  show (rows.take ((rows.length : Int)).toNat).drop 0 = rows
  rw [Int.toNat_natCast, List.take_length, List.drop_zero]
theorem checkYes (l : List Ins) (h1 : 1 ≤ l.length) (h2 : l.length ≤ 4096) (hok : ∀ (i : Nat) (x : Ins), l[i]? = some x → OkI l.length i x) :
    Comp Try.prog 15 [lst Ins.row l] (.tup [.one (.d (.sc (.int .i64 (-1)))), .one (.d (.sc (.bool true)))]) := by
  have c2 := storedR l (by omega) hok
  generalize stoF l 0 ((fillS (l.length + 1) 0 (List.replicate (l.length + 1) 0)).set 0 0) = res at *
  have hz : (l.map Ins.row).length = l.length := by simp
  have q1 : (((l.map Ins.row).length : Int) == 0) = false := by rw [beq_eq_false_iff_ne]; omega
  have q2 : decide (((l.map Ins.row).length : Int) > 4096) = false := by rw [decide_eq_false_iff_not]; omega
  have hcr := fun (i : Nat) (x : Ins) (hx : l[i]? = some x) => refusedNo l i x (by omega) hx (hok i x hx)
  have hcell := fun (i : Nat) (x : Ins) (hx : l[i]? = some x) => (hok i x hx).cell
  clear hok
  refine Spec.body (C := cx [] 83) fits (fn := Try.f15) Try.func15 rfl (by decide) (by decide) (gI ?_)
  repeat' (first | ((first | refine C_r ?_ | refine O_r ?_); (conv => whnf); first | (refine ⟨fun hb => ?_, fun hb => ?_⟩ <;> try exact no_way) | refine A_o ?_) | fail)
  refine wLoop [0, 4, 5] 0 (l.length + 1) ?_
  refine (fun key => key l [] rfl :
    (∀ (rest done : List Ins), l = done ++ rest →
    WR2 _ _ _ _ _ (rest.length + 1) [(0, lst Ins.row l), (4, int .i64 (-1)), (5, int .i64 done.length)] []) → _) ?_
  intro rest
  induction rest with
  | cons x rest ih =>
    intro done g1
    have hx : l[done.length]? = some x := by rw [g1]; simp
    have hlen : l.length = done.length + (rest.length + 1) := by rw [g1]; simp
    have c1 := hcr done.length x hx
    have g := ih (done ++ [x]) (by rw [g1]; simp)
    have q : decide ((done.length : Int) < ((l.map Ins.row).length : Int)) = true := by rw [decide_eq_true_eq, List.length_map]; omega
    have e7 : IntKind.i64.wrap ((done.length : Int) + 1) = ((done.length + 1 : Nat) : Int) := by rw [wrap_ok (by omega) (by omega)]; omega
    rw [show (done ++ [x]).length = done.length + 1 from by simp] at g
    have q3 : decide ((-1 : Int) < 0) = true := by decide
    clear hcr ih c2
    refine wR (gI ?_)
    repeat' (first | ((first | refine C_r ?_ | refine O_r ?_); (conv => whnf); first | (refine ⟨fun hb => ?_, fun hb => ?_⟩ <;> try exact no_way) | refine B_o ?_ | refine R_o ?_) | refine C_l (c1) ?_ | fail)
    all_goals (rw [e7]; exact rE g)
  | nil =>
    intro done g1
    rw [List.append_nil] at g1
    subst g1
    have q : decide ((l.length : Int) < ((l.map Ins.row).length : Int)) = false := by rw [decide_eq_false_iff_not, List.length_map]; omega
    have q3 : decide ((-1 : Int) ≥ 0) = false := by decide
    have c3 : Comp Try.prog 35 [lst Ins.row l, int .i64 ((l.map Ins.row).length : Int)] (lst i64row res) := by rw [hz]; exact c2
    clear hcr
    refine wR (gI ?_)
    repeat' (first | ((first | refine C_r ?_ | refine O_r ?_); (conv => whnf); first | (refine ⟨fun hb => ?_, fun hb => ?_⟩ <;> try exact no_way) | refine A_o ?_ | refine B_o ?_) | refine C_l (c3) ?_ | refine K_l (a := none) (b := some ((l.map Ins.row).length : Int)) ?_ (h1 := Int.le_refl 0) (h2 := (by show (0 : Int) ≤ ((l.map Ins.row).length : Int); omega)) (h3 := Int.le_refl _) (rows' := l.map Ins.row) (hr := takeAll _) | refine A0_l ?_ | fail)
    clear c2 c3
    refine wLoop [0, 4, 6, 8, 9] 0 (l.length + 1) ?_
    refine (fun key => key l [] rfl :
      (∀ (rest done : List Ins), l = done ++ rest →
      WR2 _ _ _ _ _ (rest.length + 1) [(0, lst Ins.row l), (4, int .i64 (-1)), (6, int .i64 (l.map Ins.row).length), (8, lst i64row res), (9, int .i64 done.length)] []) → _) ?_
    intro rest
    induction rest with
    | nil =>
      intro done g1
      have hd : l.length = done.length := by have := congrArg List.length g1; simpa using this
      have q : decide ((done.length : Int) < ((l.map Ins.row).length : Int)) = false := by rw [decide_eq_false_iff_not, List.length_map]; omega
      have q4 : decide ((-1 : Int) < 0) = true := by decide
      refine wR (gI ?_)
      repeat' (first | ((first | refine C_r ?_ | refine O_r ?_); (conv => whnf); first | (refine ⟨fun hb => ?_, fun hb => ?_⟩ <;> try exact no_way) | refine A_o ?_ | refine fR ?_) | fail)
      all_goals exact ⟨rfl, rfl⟩
    | cons x rest ih =>
      intro done g1
      have hx : l[done.length]? = some x := by rw [g1]; simp
      have hlen : l.length = done.length + (rest.length + 1) := by rw [g1]; simp
      obtain ⟨_, _, c3, c4⟩ := hcell done.length x hx
      have g := ih (done ++ [x]) (by rw [g1]; simp)
      have q : decide ((done.length : Int) < ((l.map Ins.row).length : Int)) = true := by rw [decide_eq_true_eq, List.length_map]; omega
      have e7 : IntKind.i64.wrap ((done.length : Int) + 1) = ((done.length + 1 : Nat) : Int) := by rw [wrap_ok (by omega) (by omega)]; omega
      rw [show (done ++ [x]).length = done.length + 1 from by simp] at g
      obtain ⟨c, jt, jf, k⟩ := x
      simp only at c3 c4
      have n3 : (c == 96) = false := by rw [beq_eq_false_iff_ne]; exact c3
      have n4 : (c == 97) = false := by rw [beq_eq_false_iff_ne]; exact c4
      have hxx : l[((done.length : Int)).toNat]? = some ⟨c, jt, jf, k⟩ := hx
      clear ih hcell
      refine wR (gI ?_)
      repeat' (first | ((first | refine C_r ?_ | refine O_r ?_ | refine R_r ?_); (conv => whnf); first | (refine ⟨fun hb => ?_, fun hb => ?_⟩ <;> try exact no_way) | refine C_o ?_ | refine R_o ?_) | refine X_d ?_ | fail)
      all_goals first | (rw [e7]; exact rE g) | trace_state
end Go.Proofs.Ytcplpllbinilmaa
