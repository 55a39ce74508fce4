/- A part of a proof: functions of the program, walked over the abstract machine. -/
import Derived.Test.YtcplpllbinilmaaLab1
set_option linter.unusedVariables false
set_option linter.unusedSimpArgs false
namespace Go.Proofs.Ytcplpllbinilmaa
open Go Go.Am Go.Proofs
attribute [local irreducible] W WL DL WO RoundEnd
set_option maxRecDepth 10000
set_option maxHeartbeats 4000000
set_option linter.unusedVariables false
set_option linter.unusedSimpArgs false
theorem ix_spec {α : Type} (p : α → Bool) : ∀ (l : List α) (j : Int), (ixF p l j = -1 ∧ l.any p = false) ∨ ∃ n x, l[n]? = some x ∧ ixF p l j = j + (n : Nat) ∧ l.any p = true ∧ l.find? p = some x
  | [], j => .inl ⟨rfl, rfl⟩
  | x :: r, j => by
    rw [ixF, List.any_cons, List.find?_cons]
    cases e : p x with
    | true => exact .inr ⟨0, x, rfl, by simp, rfl, rfl⟩
    | false =>
      simp only [Bool.false_eq_true, if_false, Bool.false_or]
      rcases ix_spec p r (j + 1) with ⟨h1, h2⟩ | ⟨n, y, h1, h2, h3, h4⟩
      · exact .inl ⟨h1, h2⟩
      · exact .inr ⟨n + 1, y, by simpa using h1, by rw [h2]; omega, h3, h4⟩
def knF (c : Int) : ByteArray := ((knowns.find? fun x => x.1 == c).map (·.2)).getD ⟨#[]⟩
theorem kn_any (c : Int) : knowns.any (fun x => x.1 == c) = codeOk c := by
  have : codeNums = knowns.map (·.1) := by decide
  unfold codeOk
  rw [this, List.any_map]; rfl
theorem nameR (c : Int) : Comp Try.prog 59 [int .i64 c] (.tup [.one (.d (.sc (.string (knF c)))), .one (.d (.sc (.bool (codeOk c))))]) := by
  have c0 := namesR
  have c1 := ixName c knowns (by decide)
  rcases ix_spec (fun x : Int × ByteArray => x.1 == c) knowns 0 with ⟨h1, h2⟩ | ⟨n, x, h1, h2, h3, h4⟩
  · rw [h1] at c1
    rw [kn_any] at h2
    refine Spec.body (C := cx [] 17) fits (fn := Try.f59) Try.func59 rfl (by decide) (by decide) (gI ?_)
    repeat' (first | ((first | refine C_r ?_ | refine O_r ?_); (conv => whnf); first | (refine ⟨fun hb => ?_, fun hb => ?_⟩ <;> try exact no_way) | refine B_o ?_ | refine fR ?_) | refine C_l (c0) ?_ | refine fun k => WL.crpU [0] [.var [.d (.sc (.int .i64 c))]] _ _ c1 (oW ?_ _) | fail)
    have : knF c = ⟨#[]⟩ := by
      unfold knF
      have : knowns.find? (fun x => x.1 == c) = none := by
        rw [List.find?_eq_none]
        intro x hx
        rw [← kn_any] at h2
        have := (List.any_eq_false.1 h2) x hx
        simpa using this
      rw [this]; rfl
    exact ⟨by rw [this, h2], rfl⟩
  · rw [kn_any] at h3
    have hn : (0 : Int) + (n : Nat) = (n : Int) := by omega
    rw [h2, hn] at c1
    have hk : knF c = x.2 := by unfold knF; rw [h4]; rfl
    obtain ⟨xn, xs⟩ := x
    have h5 : (knowns.map knRow)[((n : Int)).toNat]? = some (knRow (xn, xs)) := by simp [List.getElem?_map, h1]
    have b1 : decide ((n : Int) < 0) = false := decide_eq_false (by omega)
    generalize hks : knowns = ks at *
    refine Spec.body (C := cx [] 17) fits (fn := Try.f59) Try.func59 rfl (by decide) (by decide) (gI ?_)
    repeat' (first | ((first | refine C_r ?_ | refine O_r ?_); (conv => whnf); first | (refine ⟨fun hb => ?_, fun hb => ?_⟩ <;> try exact no_way) | refine B_o ?_ | refine fR ?_) | refine C_l (c0) ?_ | refine fun k => WL.crpU [0] [.var [.d (.sc (.int .i64 c))]] _ _ c1 (oW ?_ _) | refine X_l ?_ | fail)
    exact ⟨by rw [hk, h3], rfl⟩
/-- a symbol -/
structure Sym where
  label : Int
  t : Int
  f : Int
  code : Int
  k : Int
  deriving DecidableEq
def Sym.row (x : Sym) : List D := [.sc (.int .i64 x.label), .sc (.int .i64 x.t), .sc (.int .i64 x.f), .sc (.int .i64 x.code), .sc (.int .u32 x.k)]
/-- the place of a label -/
def seekF (label : Int) : List Sym → Int → Int
  | [], _ => -1
  | x :: r, j => if x.label == label then j else seekF label r (j + 1)
def placeF (l : List Sym) (i : Nat) (label : Int) : Int := seekF label (l.drop (i + 1)) ((i + 1 : Nat) : Int)
theorem symPlaceR (l : List Sym) (i : Nat) (label : Int) (hl : l.length < 2 ^ 40) (hi : i < l.length) : Comp Try.prog 29 [lst Sym.row l, int .i64 i, int .i64 label] (int .i64 (placeF l i label)) := by
  generalize hfb : placeF l i label = fb
  refine Spec.body (C := cx [] 24) fits (fn := Try.f29) Try.func29 rfl (by decide) (by decide) (gI ?_)
  repeat' (first | (refine C_r ?_; (conv => whnf); first | refine A_o ?_) | fail)
  refine wLoop [0, 2, 7] 0 (l.length + 1) ?_
  have hd : (l.take (i + 1)).length = i + 1 := by rw [List.length_take]; omega
  refine (fun key => (key (l.drop (i + 1)) (l.take (i + 1)) _ (by simp) (by rw [wrap_ok (by omega) (by omega), hd]; rfl) (by rw [← hfb, placeF, wrap_ok (by omega) (by omega)]; rfl)).mono ?_ :
    (∀ (rest done : List Sym) (j : Int), l = done ++ rest → j = done.length → fb = seekF label rest j →
    WR2 _ _ _ _ _ (rest.length + 1) [(0, lst Sym.row l), (2, int .i64 label), (7, int .i64 j)] []) → _) ?_
  · rw [List.length_drop]; omega
  intro rest
  induction rest with
  | nil =>
    intro done j h1 hj hr
    have hlen : l.length = done.length := by rw [h1]; simp
    refine wR (gI ?_)
    repeat' (first | ((first | refine C_r ?_ | refine O_r ?_); (conv => whnf); first | (refine ⟨fun hb => ?_, fun hb => ?_⟩ <;> try exact no_way) | refine A_o ?_ | refine fR ?_) | fail)
    exact ⟨by rw [hr]; rfl, rfl⟩
  | cons x rest ih =>
    intro done j h1 hj hr
    have hlen : l.length = done.length + (rest.length + 1) := by rw [h1]; simp
    rw [seekF] at hr
    obtain ⟨xl, xt, xf, xc, xk⟩ := x
    refine wR (gI ?_)
    repeat' (first | ((first | refine C_r ?_ | refine O_r ?_); (conv => whnf); first | (refine ⟨fun hb => ?_, fun hb => ?_⟩ <;> try exact no_way) | refine B_o ?_ | refine R_o ?_ | refine fR ?_) | refine X_l ?_ | fail)
    · rw [hb, if_pos rfl] at hr
      exact ⟨by rw [hr]; rfl, rfl⟩
    · rw [hb, if_neg (by decide)] at hr
      refine rE (ih (done ++ [⟨xl, xt, xf, xc, xk⟩]) _ (by rw [h1]; simp) ?_ ?_)
      · rw [wrap_ok (by omega) (by omega)]; simp [hj]
      · rw [hr, wrap_ok (by omega) (by omega)]
def nextF (l : List Sym) (i : Nat) (label : Int) : Int := if label == 0 then (i : Int) + 1 else placeF l i label
theorem nextR (l : List Sym) (i : Nat) (label : Int) (hl : l.length < 2 ^ 40) (hi : i < l.length) : Comp Try.prog 33 [lst Sym.row l, int .i64 i, int .i64 label] (int .i64 (nextF l i label)) := by
  have c0 := symPlaceR l i label hl hi
  refine Spec.body (C := cx [] 15) fits (fn := Try.f33) Try.func33 rfl (by decide) (by decide) (gI ?_)
  repeat' (first | ((first | refine C_r ?_ | refine O_r ?_); (conv => whnf); first | (refine ⟨fun hb => ?_, fun hb => ?_⟩ <;> try exact no_way) | refine B_o ?_ | refine fR ?_) | refine C_l (c0) ?_ | fail)
  · exact ⟨by rw [nextF, hb, if_pos rfl, wrap_ok (by omega) (by omega)]; rfl, rfl⟩
  · exact ⟨by rw [nextF, hb, if_neg (by decide)]; rfl, rfl⟩
end Go.Proofs.Ytcplpllbinilmaa
