/- Names of codes; which codes jump, end, reckon. -/
import Derived.Test.YtcplpllbinilmaaTypes
set_option linter.unusedVariables false
set_option linter.unusedSimpArgs false
namespace Go.Proofs.Ytcplpllbinilmaa
open Go Go.Am Go.Proofs
attribute [local irreducible] W WL DL WO RoundEnd
set_option maxRecDepth 10000
set_option maxHeartbeats 4000000
set_option linter.unusedVariables false
set_option linter.unusedSimpArgs false
def codeNums : List Int := [0, 1, 2, 3, 4, 5, 6, 7, 12, 20, 21, 22, 28, 29, 32, 36, 37, 44, 45, 52, 53, 60, 61, 68, 69, 76, 77, 84, 92, 96, 97, 100, 108, 116, 124, 128, 129, 132, 135, 164, 172]
def codeStrs : List ByteArray := [⟨#[108, 100, 105, 109, 109]⟩, ⟨#[108, 100, 120, 105, 109, 109]⟩, ⟨#[115, 116]⟩, ⟨#[115, 116, 120]⟩, ⟨#[97, 100, 100, 107]⟩, ⟨#[106, 97]⟩, ⟨#[114, 101, 116, 107]⟩, ⟨#[116, 97, 120]⟩, ⟨#[97, 100, 100, 120]⟩, ⟨#[115, 117, 98, 107]⟩, ⟨#[106, 101, 113, 107]⟩, ⟨#[114, 101, 116, 97]⟩, ⟨#[115, 117, 98, 120]⟩, ⟨#[106, 101, 113, 120]⟩, ⟨#[108, 100, 97, 98, 115]⟩, ⟨#[109, 117, 108, 107]⟩, ⟨#[106, 103, 116, 107]⟩, ⟨#[109, 117, 108, 120]⟩, ⟨#[106, 103, 116, 120]⟩, ⟨#[100, 105, 118, 107]⟩, ⟨#[106, 103, 101, 107]⟩, ⟨#[100, 105, 118, 120]⟩, ⟨#[106, 103, 101, 120]⟩, ⟨#[111, 114, 107]⟩, ⟨#[106, 115, 101, 116, 107]⟩, ⟨#[111, 114, 120]⟩, ⟨#[106, 115, 101, 116, 120]⟩, ⟨#[97, 110, 100, 107]⟩, ⟨#[97, 110, 100, 120]⟩, ⟨#[108, 100, 109, 101, 109]⟩, ⟨#[108, 100, 120, 109, 101, 109]⟩, ⟨#[108, 115, 104, 107]⟩, ⟨#[108, 115, 104, 120]⟩, ⟨#[114, 115, 104, 107]⟩, ⟨#[114, 115, 104, 120]⟩, ⟨#[108, 100, 108, 101, 110]⟩, ⟨#[108, 100, 120, 108, 101, 110]⟩, ⟨#[110, 101, 103]⟩, ⟨#[116, 120, 97]⟩, ⟨#[120, 111, 114, 107]⟩, ⟨#[120, 111, 114, 120]⟩]
def knowns : List (Int × ByteArray) := [(0, ⟨#[108, 100, 105, 109, 109]⟩), (1, ⟨#[108, 100, 120, 105, 109, 109]⟩), (2, ⟨#[115, 116]⟩), (3, ⟨#[115, 116, 120]⟩), (4, ⟨#[97, 100, 100, 107]⟩), (5, ⟨#[106, 97]⟩), (6, ⟨#[114, 101, 116, 107]⟩), (7, ⟨#[116, 97, 120]⟩), (12, ⟨#[97, 100, 100, 120]⟩), (20, ⟨#[115, 117, 98, 107]⟩), (21, ⟨#[106, 101, 113, 107]⟩), (22, ⟨#[114, 101, 116, 97]⟩), (28, ⟨#[115, 117, 98, 120]⟩), (29, ⟨#[106, 101, 113, 120]⟩), (32, ⟨#[108, 100, 97, 98, 115]⟩), (36, ⟨#[109, 117, 108, 107]⟩), (37, ⟨#[106, 103, 116, 107]⟩), (44, ⟨#[109, 117, 108, 120]⟩), (45, ⟨#[106, 103, 116, 120]⟩), (52, ⟨#[100, 105, 118, 107]⟩), (53, ⟨#[106, 103, 101, 107]⟩), (60, ⟨#[100, 105, 118, 120]⟩), (61, ⟨#[106, 103, 101, 120]⟩), (68, ⟨#[111, 114, 107]⟩), (69, ⟨#[106, 115, 101, 116, 107]⟩), (76, ⟨#[111, 114, 120]⟩), (77, ⟨#[106, 115, 101, 116, 120]⟩), (84, ⟨#[97, 110, 100, 107]⟩), (92, ⟨#[97, 110, 100, 120]⟩), (96, ⟨#[108, 100, 109, 101, 109]⟩), (97, ⟨#[108, 100, 120, 109, 101, 109]⟩), (100, ⟨#[108, 115, 104, 107]⟩), (108, ⟨#[108, 115, 104, 120]⟩), (116, ⟨#[114, 115, 104, 107]⟩), (124, ⟨#[114, 115, 104, 120]⟩), (128, ⟨#[108, 100, 108, 101, 110]⟩), (129, ⟨#[108, 100, 120, 108, 101, 110]⟩), (132, ⟨#[110, 101, 103]⟩), (135, ⟨#[116, 120, 97]⟩), (164, ⟨#[120, 111, 114, 107]⟩), (172, ⟨#[120, 111, 114, 120]⟩)]
def i64row (n : Int) : List D := [.sc (.int .i64 n)]
def knRow (p : Int × ByteArray) : List D := [.sc (.int .i64 p.1), .sc (.string p.2)]
def lookF (c : Int) : List Int → List ByteArray → ByteArray
  | n :: ns, s :: ss => if n == c then s else lookF c ns ss
  | _, _ => ⟨#[]⟩
/-- is it a code? -/
def codeOk (c : Int) : Bool := codeNums.any (· == c)
def nameF (c : Int) : ByteArray := lookF c codeNums codeStrs
theorem look_any (c : Int) : ∀ (ns : List Int) (ss : List ByteArray), ns.length = ss.length → (∀ s ∈ ss, (s == (⟨#[]⟩ : ByteArray)) = false) → (lookF c ns ss == (⟨#[]⟩ : ByteArray)) = !ns.any (· == c)
  | [], [], _, _ => by rfl
  | n :: ns, s :: ss, h, hs => by
    rw [lookF, List.any_cons]
    cases e : n == c with
    | true => simp only [if_true, Bool.true_or]; exact hs s (by simp)
    | false => simp only [Bool.false_eq_true, if_false, Bool.false_or]; exact look_any c ns ss (by simpa using h) fun s h => hs s (by simp [h])
  | [], _ :: _, h, _ => by simp at h
  | _ :: _, [], h, _ => by simp at h
theorem name_ok (c : Int) : (nameF c == (⟨#[]⟩ : ByteArray)) = !codeOk c := look_any c _ _ rfl (by decide +kernel)
theorem codesR : Comp Try.prog 51 [] (.tup [.one (.d (.list (codeNums.map i64row))), .one (.d (.list (codeStrs.map strow)))]) := by
  refine Spec.body (C := cx [] 4) fits (fn := Try.f51) Try.func51 rfl (by decide) (by decide) (gI ?_)
  repeat' (first | (refine C_r ?_; (conv => whnf); first | refine fR ?_) | fail)
  exact ⟨rfl, rfl⟩
theorem codeNameR (c : Int) : Comp Try.prog 27 [int .i64 c] (str (nameF c)) := by
  have c0 := codesR
  unfold nameF
  have hl : codeNums.length = codeStrs.length := rfl
  have hs : codeNums.length < 100 := by decide
  generalize codeNums = ns at *
  generalize codeStrs = ss at *
  generalize hfb : lookF c ns ss = fb
  refine Spec.body (C := cx [] 26) fits (fn := Try.f27) Try.func27 rfl (by decide) (by decide) (gI ?_)
  repeat' (first | ((first | refine C_r ?_ | refine O_r ?_); (conv => whnf); first | refine A_o ?_ | refine B_o ?_) | refine C_l (c0) ?_ | fail)
  refine wLoop [0, 3, 4, 5] 0 (ns.length + 1) ?_
  refine (fun key => key ns ss [] [] _ rfl rfl rfl rfl hl hfb.symm :
    (∀ (rest : List Int) (rs : List ByteArray) (done : List Int) (ds : List ByteArray) (j : Int), ns = done ++ rest → ss = ds ++ rs → j = done.length → ds.length = done.length → rest.length = rs.length → fb = lookF c rest rs →
    WR2 _ _ _ _ _ (rest.length + 1) [(0, int .i64 c), (3, lst i64row ns), (4, lst strow ss), (5, int .i64 j)] []) → _) ?_
  intro rest
  induction rest with
  | nil =>
    intro rs done ds j h1 h2 hj hd hr hf
    have hlen : ns.length = done.length := by rw [h1]; simp
    have : rs = [] := by cases rs with
      | nil => rfl
      | cons _ _ => simp at hr
    subst this
    refine wR (gI ?_)
    repeat' (first | ((first | refine C_r ?_ | refine O_r ?_); (conv => whnf); first | (refine ⟨fun hb => ?_, fun hb => ?_⟩ <;> try exact no_way) | refine A_o ?_ | refine fR ?_) | fail)
    exact ⟨by rw [hf]; rfl, rfl⟩
  | cons n rest ih =>
    intro rs done ds j h1 h2 hj hd hr hf
    have hlen : ns.length = done.length + (rest.length + 1) := by rw [h1]; simp
    cases rs with
    | nil => simp at hr
    | cons s rs =>
      have hj' : j = ds.length := by omega
      rw [lookF] at hf
      refine wR (gI ?_)
      repeat' (first | ((first | refine C_r ?_ | refine O_r ?_); (conv => whnf); first | (refine ⟨fun hb => ?_, fun hb => ?_⟩ <;> try exact no_way) | refine B_o ?_ | refine R_o ?_ | refine fR ?_) | refine X_l ?_ | fail)
      · rw [hb, if_pos rfl] at hf
        exact ⟨by rw [hf]; rfl, rfl⟩
      · rw [hb, if_neg (by decide)] at hf
        refine rE (ih rs (done ++ [n]) (ds ++ [s]) _ (by rw [h1]; simp) (by rw [h2]; simp) ?_ (by simp [hd]) (by simpa using hr) hf)
        rw [wrap_ok (by omega) (by omega)]; simp [hj]
/-- a jump with a condition? -/
def isJumpF (c : Int) : Bool := c == 21 || c == 29 || c == 37 || c == 45 || c == 53 || c == 61 || c == 69 || c == 77
theorem isJumpR (c : Int) : Comp Try.prog 28 [int .i64 c] (bool (isJumpF c)) := by
  refine Spec.body (C := cx [] 13) fits (fn := Try.f28) Try.func28 rfl (by decide) (by decide) (gI ?_)
  repeat' (first | ((first | refine C_r ?_ | refine O_r ?_); (conv => whnf); first | (refine ⟨fun hb => ?_, fun hb => ?_⟩ <;> try exact no_way) | refine fR ?_) | fail)
  all_goals exact ⟨by simp_all [isJumpF, Am.bool], rfl⟩
theorem jumpsR (c : Int) : Comp Try.prog 48 [int .i64 c] (bool (isJumpF c)) := by
  refine Spec.body (C := cx [] 13) fits (fn := Try.f48) Try.func48 rfl (by decide) (by decide) (gI ?_)
  repeat' (first | ((first | refine C_r ?_ | refine O_r ?_); (conv => whnf); first | (refine ⟨fun hb => ?_, fun hb => ?_⟩ <;> try exact no_way) | refine fR ?_) | fail)
  all_goals exact ⟨by simp_all [isJumpF, Am.bool], rfl⟩
def endsF (c : Int) : Bool := c == 6 || c == 22
theorem endsR (c : Int) : Comp Try.prog 60 [int .i64 c] (bool (endsF c)) := by
  refine Spec.body (C := cx [] 9) fits (fn := Try.f60) Try.func60 rfl (by decide) (by decide) (gI ?_)
  repeat' (first | ((first | refine C_r ?_ | refine O_r ?_); (conv => whnf); first | (refine ⟨fun hb => ?_, fun hb => ?_⟩ <;> try exact no_way) | refine fR ?_) | fail)
  all_goals exact ⟨by simp_all [endsF, Am.bool], rfl⟩
/-- the name, as the listing has it -/
theorem namesR : Comp Try.prog 70 [] (lst knRow knowns) := by
  refine Spec.body (C := cx [] 43) fits (fn := Try.f70) Try.func70 rfl (by decide) (by decide) (gI ?_)
  repeat' (first | (refine C_r ?_; (conv => whnf); first | refine fR ?_) | fail)
  exact ⟨rfl, rfl⟩
def ixF {α : Type} (p : α → Bool) : List α → Int → Int
  | [], _ => -1
  | x :: r, j => if p x then j else ixF p r (j + 1)
theorem cloName (c : Int) (x : Int × ByteArray) : Am.Spec Try.prog 72 [.agg ((knRow x).map .d), .one (.ptr 0 0)] [.var [.d (.sc (.int .i64 c))]] (fun v s => v = bool (x.1 == c) ∧ s = [.var [.d (.sc (.int .i64 c))]]) := by
  refine Spec.body (C := cx [] 8) fits (fn := Try.f72) Try.func72 rfl (by decide) (by decide) (gI ?_)
  repeat' (first | ((first | refine C_r ?_ | refine O_r ?_); (conv => whnf); first | (refine ⟨fun hb => ?_, fun hb => ?_⟩ <;> try exact no_way) | refine fR ?_) | fail)
  all_goals exact ⟨by rw [hb]; rfl, rfl⟩
theorem ixName (c : Int) (l : List (Int × ByteArray)) (hl : l.length < 2 ^ 60) : Am.Spec Try.prog 71 [lst knRow l, .one (.fn (.func 72) [] [.ptr 0 0])] [.var [.d (.sc (.int .i64 c))]] (fun v s => v = int .i64 (ixF (fun x => x.1 == c) l 0) ∧ s = [.var [.d (.sc (.int .i64 c))]]) := by
  generalize hfb : ixF (fun x => x.1 == c) l 0 = fb
  refine Spec.body (C := cx [] 19) fits (fn := Try.f71) Try.func71 rfl (by decide) (by decide) (gI ?_)
  repeat' (first | (refine C_r ?_; (conv => whnf); first | refine A_o ?_) | fail)
  refine wLoop [0, 1, 7, 8] 1 (l.length + 1) ?_
  refine (fun key => key l [] _ rfl rfl hfb.symm :
    (∀ (rest done : List (Int × ByteArray)) (j : Int), l = done ++ rest → j = done.length → fb = ixF (fun x => x.1 == c) rest j →
    WR2 _ _ _ _ _ (rest.length + 1) [(0, lst knRow l), (1, .one (.fn (.func 72) [] [.ptr 0 0])), (7, int .i64 (l.map knRow).length), (8, int .i64 j)] [.var [.d (.sc (.int .i64 c))]]) → _) ?_
  intro rest
  induction rest with
  | nil =>
    intro done j h1 hj hr
    have hlen : l.length = done.length := by rw [h1]; simp
    refine wR (gI ?_)
    repeat' (first | ((first | refine C_r ?_ | refine O_r ?_); (conv => whnf); first | (refine ⟨fun hb => ?_, fun hb => ?_⟩ <;> try exact no_way) | refine A_o ?_ | refine fR ?_) | fail)
    exact ⟨by rw [hr]; rfl, rfl⟩
  | cons x rest ih =>
    intro done j h1 hj hr
    have hlen : l.length = done.length + (rest.length + 1) := by rw [h1]; simp
    have hc := cloName c x
    rw [ixF] at hr
    obtain ⟨xn, xs⟩ := x
    cases hp : (xn == c) with
    | true =>
      rw [hp] at hc
      simp only [hp, if_true] at hr
      refine wR (gI ?_)
      repeat' (first | ((first | refine C_r ?_ | refine O_r ?_); (conv => whnf); first | (refine ⟨fun hb => ?_, fun hb => ?_⟩ <;> try exact no_way) | refine B_o ?_ | refine fR ?_) | refine fun k => WL.crpU [0] [.var [.d (.sc (.int .i64 c))]] _ _ hc (oW ?_ _) | refine X_l ?_ | fail)
      exact ⟨by rw [hr]; rfl, rfl⟩
    | false =>
      rw [hp] at hc
      simp only [hp, Bool.false_eq_true, if_false] at hr
      refine wR (gI ?_)
      repeat' (first | ((first | refine C_r ?_ | refine O_r ?_); (conv => whnf); first | (refine ⟨fun hb => ?_, fun hb => ?_⟩ <;> try exact no_way) | refine B_o ?_ | refine R_o ?_) | refine fun k => WL.crpU [0] [.var [.d (.sc (.int .i64 c))]] _ _ hc (oW ?_ _) | refine X_l ?_ | fail)
      refine rE (ih (done ++ [(xn, xs)]) _ (by rw [h1]; simp) ?_ ?_)
      · rw [wrap_ok (by omega) (by omega)]; simp [hj]
      · rw [hr, wrap_ok (by omega) (by omega)]
end Go.Proofs.Ytcplpllbinilmaa
