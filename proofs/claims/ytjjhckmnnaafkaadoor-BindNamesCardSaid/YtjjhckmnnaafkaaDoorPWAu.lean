/- A part of a proof: functions of the program walked over the abstract machine, and what they compute. -/
import Derived.Test.YtjjhckmnnaafkaaDoorPWAn
import Derived.Test.YtjjhckmnnaafkaaDoorPEvx
import Derived.Test.YtjjhckmnnaafkaaDoorPWAs
import Derived.Test.YtjjhckmnnaafkaaDoorPWAq
import Derived.Test.YtjjhckmnnaafkaaDoorPWAr
set_option linter.unusedVariables false
set_option linter.unusedSimpArgs false
namespace Go.Proofs.YtjjhckmnnaafkaaDoor
open Go Go.Am Go.Proofs
attribute [local irreducible] W WL DL WO RoundEnd
set_option maxRecDepth 100000
set_option maxHeartbeats 4000000
/-- a call -/
structure Cal where
  name : ByteArray
  nr : Int
  ps : List ByteArray
def Cal.row1 (x : Cal) : List D := [.sc (.string x.name), .sc (.int .u32 x.nr), .list (x.ps.map strow)]
/-- a row of the document's table -/
structure Rw where
  name : ByteArray
  ps : D
  amd : Int
  x86 : Int
  arm : Int
def Rw.row (x : Rw) : List D := [.sc (.string x.name), x.ps, .sc (.int .i64 x.amd), .sc (.int .i64 x.x86), .sc (.int .i64 x.arm)]
def arch0 : ByteArray := ⟨#[97, 97, 114, 99, 104, 54, 52]⟩
def calL0 : List Cal := [⟨⟨#[98, 114, 107]⟩, 214, [⟨#[97, 100, 100, 114]⟩]⟩, ⟨⟨#[99, 108, 111, 115, 101]⟩, 57, [⟨#[102, 100]⟩]⟩, ⟨⟨#[100, 117, 112]⟩, 23, [⟨#[102, 100]⟩]⟩, ⟨⟨#[101, 120, 105, 116]⟩, 93, [⟨#[99, 111, 100, 101]⟩]⟩, ⟨⟨#[101, 120, 105, 116, 95, 103, 114, 111, 117, 112]⟩, 94, [⟨#[99, 111, 100, 101]⟩]⟩, ⟨⟨#[103, 101, 116, 112, 105, 100]⟩, 172, []⟩, ⟨⟨#[105, 111, 99, 116, 108]⟩, 29, [⟨#[102, 100]⟩, ⟨#[114, 101, 113, 117, 101, 115, 116]⟩, ⟨#[97, 114, 103]⟩]⟩, ⟨⟨#[107, 105, 108, 108]⟩, 129, [⟨#[112, 105, 100]⟩, ⟨#[115, 105, 103]⟩]⟩, ⟨⟨#[109, 109, 97, 112]⟩, 222, [⟨#[97, 100, 100, 114]⟩, ⟨#[108, 101, 110]⟩, ⟨#[112, 114, 111, 116]⟩, ⟨#[102, 108, 97, 103, 115]⟩, ⟨#[102, 100]⟩, ⟨#[111, 102, 102]⟩]⟩, ⟨⟨#[109, 112, 114, 111, 116, 101, 99, 116]⟩, 226, [⟨#[97, 100, 100, 114]⟩, ⟨#[108, 101, 110]⟩, ⟨#[112, 114, 111, 116]⟩]⟩, ⟨⟨#[109, 117, 110, 109, 97, 112]⟩, 215, [⟨#[97, 100, 100, 114]⟩, ⟨#[108, 101, 110]⟩]⟩, ⟨⟨#[111, 112, 101, 110, 97, 116]⟩, 56, [⟨#[100, 105, 114]⟩, ⟨#[112, 97, 116, 104]⟩, ⟨#[102, 108, 97, 103, 115]⟩, ⟨#[109, 111, 100, 101]⟩]⟩, ⟨⟨#[112, 114, 99, 116, 108]⟩, 167, [⟨#[111, 112, 116, 105, 111, 110]⟩, ⟨#[97]⟩, ⟨#[98]⟩, ⟨#[99]⟩, ⟨#[100]⟩]⟩, ⟨⟨#[114, 101, 97, 100]⟩, 63, [⟨#[102, 100]⟩, ⟨#[98, 117, 102]⟩, ⟨#[99, 111, 117, 110, 116]⟩]⟩, ⟨⟨#[115, 111, 99, 107, 101, 116]⟩, 198, [⟨#[102, 97, 109, 105, 108, 121]⟩, ⟨#[116, 121, 112, 101]⟩, ⟨#[112, 114, 111, 116, 111, 99, 111, 108]⟩]⟩, ⟨⟨#[119, 114, 105, 116, 101]⟩, 64, [⟨#[102, 100]⟩, ⟨#[98, 117, 102]⟩, ⟨#[99, 111, 117, 110, 116]⟩]⟩]
theorem all0 : Comp Tryd.prog 58 [str arch0] (lst Cal.row1 calL0) := ev_val noHook_ok (d := 200) (by kernel_rfl)
theorem nu0 : Comp Tryd.prog 15 [str arch0] (.tup [.one (.d (.sc (.int .u32 3221225655))), .one (.d (.sc (.bool true)))]) := ev_val noHook_ok (d := 200) (by kernel_rfl)
def arch1 : ByteArray := ⟨#[105, 51, 56, 54]⟩
def calL1 : List Cal := [⟨⟨#[98, 114, 107]⟩, 45, [⟨#[97, 100, 100, 114]⟩]⟩, ⟨⟨#[99, 108, 111, 115, 101]⟩, 6, [⟨#[102, 100]⟩]⟩, ⟨⟨#[100, 117, 112]⟩, 41, [⟨#[102, 100]⟩]⟩, ⟨⟨#[101, 120, 105, 116]⟩, 1, [⟨#[99, 111, 100, 101]⟩]⟩, ⟨⟨#[101, 120, 105, 116, 95, 103, 114, 111, 117, 112]⟩, 252, [⟨#[99, 111, 100, 101]⟩]⟩, ⟨⟨#[103, 101, 116, 112, 105, 100]⟩, 20, []⟩, ⟨⟨#[105, 111, 99, 116, 108]⟩, 54, [⟨#[102, 100]⟩, ⟨#[114, 101, 113, 117, 101, 115, 116]⟩, ⟨#[97, 114, 103]⟩]⟩, ⟨⟨#[107, 105, 108, 108]⟩, 37, [⟨#[112, 105, 100]⟩, ⟨#[115, 105, 103]⟩]⟩, ⟨⟨#[109, 109, 97, 112]⟩, 90, [⟨#[97, 100, 100, 114]⟩, ⟨#[108, 101, 110]⟩, ⟨#[112, 114, 111, 116]⟩, ⟨#[102, 108, 97, 103, 115]⟩, ⟨#[102, 100]⟩, ⟨#[111, 102, 102]⟩]⟩, ⟨⟨#[109, 112, 114, 111, 116, 101, 99, 116]⟩, 125, [⟨#[97, 100, 100, 114]⟩, ⟨#[108, 101, 110]⟩, ⟨#[112, 114, 111, 116]⟩]⟩, ⟨⟨#[109, 117, 110, 109, 97, 112]⟩, 91, [⟨#[97, 100, 100, 114]⟩, ⟨#[108, 101, 110]⟩]⟩, ⟨⟨#[111, 112, 101, 110]⟩, 5, [⟨#[112, 97, 116, 104]⟩, ⟨#[102, 108, 97, 103, 115]⟩, ⟨#[109, 111, 100, 101]⟩]⟩, ⟨⟨#[111, 112, 101, 110, 97, 116]⟩, 295, [⟨#[100, 105, 114]⟩, ⟨#[112, 97, 116, 104]⟩, ⟨#[102, 108, 97, 103, 115]⟩, ⟨#[109, 111, 100, 101]⟩]⟩, ⟨⟨#[112, 114, 99, 116, 108]⟩, 172, [⟨#[111, 112, 116, 105, 111, 110]⟩, ⟨#[97]⟩, ⟨#[98]⟩, ⟨#[99]⟩, ⟨#[100]⟩]⟩, ⟨⟨#[114, 101, 97, 100]⟩, 3, [⟨#[102, 100]⟩, ⟨#[98, 117, 102]⟩, ⟨#[99, 111, 117, 110, 116]⟩]⟩, ⟨⟨#[115, 111, 99, 107, 101, 116]⟩, 359, [⟨#[102, 97, 109, 105, 108, 121]⟩, ⟨#[116, 121, 112, 101]⟩, ⟨#[112, 114, 111, 116, 111, 99, 111, 108]⟩]⟩, ⟨⟨#[119, 114, 105, 116, 101]⟩, 4, [⟨#[102, 100]⟩, ⟨#[98, 117, 102]⟩, ⟨#[99, 111, 117, 110, 116]⟩]⟩]
theorem all1 : Comp Tryd.prog 58 [str arch1] (lst Cal.row1 calL1) := ev_val noHook_ok (d := 200) (by kernel_rfl)
theorem nu1 : Comp Tryd.prog 15 [str arch1] (.tup [.one (.d (.sc (.int .u32 1073741827))), .one (.d (.sc (.bool true)))]) := ev_val noHook_ok (d := 200) (by kernel_rfl)
def arch2 : ByteArray := ⟨#[120, 56, 54, 95, 54, 52]⟩
def calL2 : List Cal := [⟨⟨#[98, 114, 107]⟩, 12, [⟨#[97, 100, 100, 114]⟩]⟩, ⟨⟨#[99, 108, 111, 115, 101]⟩, 3, [⟨#[102, 100]⟩]⟩, ⟨⟨#[100, 117, 112]⟩, 32, [⟨#[102, 100]⟩]⟩, ⟨⟨#[101, 120, 105, 116]⟩, 60, [⟨#[99, 111, 100, 101]⟩]⟩, ⟨⟨#[101, 120, 105, 116, 95, 103, 114, 111, 117, 112]⟩, 231, [⟨#[99, 111, 100, 101]⟩]⟩, ⟨⟨#[103, 101, 116, 112, 105, 100]⟩, 39, []⟩, ⟨⟨#[105, 111, 99, 116, 108]⟩, 16, [⟨#[102, 100]⟩, ⟨#[114, 101, 113, 117, 101, 115, 116]⟩, ⟨#[97, 114, 103]⟩]⟩, ⟨⟨#[107, 105, 108, 108]⟩, 62, [⟨#[112, 105, 100]⟩, ⟨#[115, 105, 103]⟩]⟩, ⟨⟨#[109, 109, 97, 112]⟩, 9, [⟨#[97, 100, 100, 114]⟩, ⟨#[108, 101, 110]⟩, ⟨#[112, 114, 111, 116]⟩, ⟨#[102, 108, 97, 103, 115]⟩, ⟨#[102, 100]⟩, ⟨#[111, 102, 102]⟩]⟩, ⟨⟨#[109, 112, 114, 111, 116, 101, 99, 116]⟩, 10, [⟨#[97, 100, 100, 114]⟩, ⟨#[108, 101, 110]⟩, ⟨#[112, 114, 111, 116]⟩]⟩, ⟨⟨#[109, 117, 110, 109, 97, 112]⟩, 11, [⟨#[97, 100, 100, 114]⟩, ⟨#[108, 101, 110]⟩]⟩, ⟨⟨#[111, 112, 101, 110]⟩, 2, [⟨#[112, 97, 116, 104]⟩, ⟨#[102, 108, 97, 103, 115]⟩, ⟨#[109, 111, 100, 101]⟩]⟩, ⟨⟨#[111, 112, 101, 110, 97, 116]⟩, 257, [⟨#[100, 105, 114]⟩, ⟨#[112, 97, 116, 104]⟩, ⟨#[102, 108, 97, 103, 115]⟩, ⟨#[109, 111, 100, 101]⟩]⟩, ⟨⟨#[112, 114, 99, 116, 108]⟩, 157, [⟨#[111, 112, 116, 105, 111, 110]⟩, ⟨#[97]⟩, ⟨#[98]⟩, ⟨#[99]⟩, ⟨#[100]⟩]⟩, ⟨⟨#[114, 101, 97, 100]⟩, 0, [⟨#[102, 100]⟩, ⟨#[98, 117, 102]⟩, ⟨#[99, 111, 117, 110, 116]⟩]⟩, ⟨⟨#[115, 111, 99, 107, 101, 116]⟩, 41, [⟨#[102, 97, 109, 105, 108, 121]⟩, ⟨#[116, 121, 112, 101]⟩, ⟨#[112, 114, 111, 116, 111, 99, 111, 108]⟩]⟩, ⟨⟨#[119, 114, 105, 116, 101]⟩, 1, [⟨#[102, 100]⟩, ⟨#[98, 117, 102]⟩, ⟨#[99, 111, 117, 110, 116]⟩]⟩]
theorem all2 : Comp Tryd.prog 58 [str arch2] (lst Cal.row1 calL2) := ev_val noHook_ok (d := 200) (by kernel_rfl)
theorem cls2 : Comp Tryd.prog 11 [str arch2] (lst Cal.row1 calL2) := ev_val noHook_ok (d := 200) (by kernel_rfl)
theorem nu2 : Comp Tryd.prog 15 [str arch2] (.tup [.one (.d (.sc (.int .u32 3221225534))), .one (.d (.sc (.bool true)))]) := ev_val noHook_ok (d := 200) (by kernel_rfl)
def zeroC : List Cell := [.d (.sc (.string ⟨#[]⟩)), .d (.sc (.int .u32 0)), .d (.list [])]
def ixC {α : Type} (p : α → Bool) : List α → Int → Int
  | [], _ => -1
  | x :: r, j => if p x then j else ixC p r (j + 1)
theorem ixC_spec {α : Type} (p : α → Bool) : ∀ (l : List α) (j : Int), (ixC p l j = -1 ∧ l.find? p = none) ∨ ∃ n x, l[n]? = some x ∧ ixC p l j = j + (n : Nat) ∧ l.find? p = some x
  | [], j => .inl ⟨rfl, rfl⟩
  | x :: r, j => by
    rw [ixC, List.find?_cons]
    cases e : p x with
    | true => exact .inr ⟨0, x, rfl, by simp, rfl⟩
    | false =>
      simp only [Bool.false_eq_true, if_false]
      rcases ixC_spec p r (j + 1) with ⟨h1, h2⟩ | ⟨n, y, h1, h2, h4⟩
      · exact .inl ⟨h1, h2⟩
      · exact .inr ⟨n + 1, y, by simpa using h1, by rw [h2]; omega, h4⟩
theorem cloFind (c : ByteArray) (x : Cal) : Am.Spec Tryd.prog 60 [.agg ((Cal.row1 x).map .d), .one (.ptr 0 0)] [.var [.d (.sc (.string c))]] (fun v s => v = Am.bool (x.name == c) ∧ s = [.var [.d (.sc (.string c))]]) := by
  refine Spec.body (C := cx [] 8) fits (fn := Tryd.f60) Tryd.func60 rfl (by decide) (by decide) (gI ?_)
  refine ST wz ?_ <;> (repeat' (first | exact Wl.mk | refine wy1 ?_ ?_)) <;> repeat (intro hb; have hx := wy5 hb; clear hx)
  all_goals exact ⟨by rw [hb]; rfl, rfl⟩
theorem ixFind (c : ByteArray) (l : List Cal) (hl : l.length < 2 ^ 60) : Am.Spec Tryd.prog 59 [lst Cal.row1 l, .one (.fn (.func 60) [] [.ptr 0 0])] [.var [.d (.sc (.string c))]] (fun v s => v = int .i64 (ixC (fun x : Cal => x.name == c) l 0) ∧ s = [.var [.d (.sc (.string c))]]) := by
  generalize hfb : ixC (fun x : Cal => x.name == c) l 0 = fb
  refine Spec.body (C := cx [] 19) fits (fn := Tryd.f59) Tryd.func59 rfl (by decide) (by decide) (gI ?_)
  refine ST wz ?_ <;> (repeat' (first | exact Wl.mk | refine wy1 ?_ ?_)) <;> repeat (intro hb; have hx := wy5 hb; clear hx)
  refine wLoop [0, 1, 7, 8] 1 (l.length + 1) ?_
  refine (fun key => key l [] _ rfl rfl hfb.symm :
    (∀ (rest done : List Cal) (j : Int), l = done ++ rest → j = done.length → fb = ixC (fun x : Cal => x.name == c) rest j →
    WR2 _ _ _ _ _ (rest.length + 1) [(0, lst Cal.row1 l), (1, .one (.fn (.func 60) [] [.ptr 0 0])), (7, int .i64 (l.map Cal.row1).length), (8, int .i64 j)] [.var [.d (.sc (.string c))]]) → _) ?_
  intro rest
  induction rest with
  | nil =>
    intro done j h1 hj hr
    have hlen : l.length = done.length := by rw [h1]; simp
    refine wR (gI ?_)
    refine ST wz ?_ <;> (repeat' (first | exact Wl.mk | refine wy1 ?_ ?_)) <;> repeat (intro hb; have hx := wy5 hb; clear hx)
    exact ⟨by rw [hr]; rfl, rfl⟩
  | cons x rest ih =>
    intro done j h1 hj hr
    have hlen : l.length = done.length + (rest.length + 1) := by rw [h1]; simp
    have hc := cloFind c x
    rw [ixC] at hr
    obtain ⟨xn, xs, xp⟩ := x
    cases hp : (xn == c) with
    | true =>
      rw [hp] at hc
      simp only [hp, if_true] at hr
      refine wR (gI ?_)
      repeat' (first | ((first | refine C_r ?_ | refine C0_r ?_ | refine O_r ?_ | refine R_r ?_); (conv => whnf); first | (refine ⟨fun hb => ?_, fun hb => ?_⟩ <;> try exact no_way) | refine A_o ?_ | refine B_o ?_ | refine C_o ?_ | refine R_o ?_ | refine fR ?_ | refine fRk ?_ | refine F_o ?_) | refine fun k => WL.crpU [0] [.var [.d (.sc (.string c))]] _ _ hc (oW ?_ _) | refine SA_l ?_ | refine V_l ?_ | refine L_l ?_ | refine Q_l ?_ | refine X_l ?_ | refine Xa_l ?_ | refine Xs_l ?_ | refine K_l ?_ | refine Ka_l ?_ | refine Lk_l ?_ | refine Up_l ?_ | refine Del_l ?_ | refine St_l ?_ | refine LU_l ?_ | refine Xw_l ?_ | refine Le_l ?_ | refine Se_l ?_ | refine M_l ?_ | refine A_l ?_ | refine A0_l ?_ | refine A1_l ?_ | refine Mk_l ?_ | refine Kz_l ?_ | refine W_l ?_ | fail)
      exact ⟨by rw [hr]; rfl, rfl⟩
    | false =>
      rw [hp] at hc
      simp only [hp, Bool.false_eq_true, if_false] at hr
      refine wR (gI ?_)
      repeat' (first | ((first | refine C_r ?_ | refine C0_r ?_ | refine O_r ?_ | refine R_r ?_); (conv => whnf); first | (refine ⟨fun hb => ?_, fun hb => ?_⟩ <;> try exact no_way) | refine A_o ?_ | refine B_o ?_ | refine C_o ?_ | refine R_o ?_ | refine fR ?_ | refine fRk ?_ | refine F_o ?_) | refine fun k => WL.crpU [0] [.var [.d (.sc (.string c))]] _ _ hc (oW ?_ _) | refine SA_l ?_ | refine V_l ?_ | refine L_l ?_ | refine Q_l ?_ | refine X_l ?_ | refine Xa_l ?_ | refine Xs_l ?_ | refine K_l ?_ | refine Ka_l ?_ | refine Lk_l ?_ | refine Up_l ?_ | refine Del_l ?_ | refine St_l ?_ | refine LU_l ?_ | refine Xw_l ?_ | refine Le_l ?_ | refine Se_l ?_ | refine M_l ?_ | refine A_l ?_ | refine A0_l ?_ | refine A1_l ?_ | refine Mk_l ?_ | refine Kz_l ?_ | refine W_l ?_ | fail)
      refine rE (ih (done ++ [⟨xn, xs, xp⟩]) _ (by rw [h1]; simp) ?_ ?_)
      · rw [wrap_ok (by omega) (by omega)]; simp [hj]
      · rw [hr, wrap_ok (by omega) (by omega)]
def foundV (f : Cal → List D) : Option Cal → V
  | some x => .tup [.agg ((f x).map .d), .one (.d (.sc (.bool true)))]
  | none => .tup [.agg zeroC, .one (.d (.sc (.bool false)))]
theorem findR (a c : ByteArray) (l : List Cal) (hl : l.length < 2 ^ 40) (c0 : Comp Tryd.prog 58 [str a] (lst Cal.row1 l)) : Comp Tryd.prog 35 [str a, str c] (foundV Cal.row1 (l.find? fun x => x.name == c)) := by
  have c1 := ixFind c l (by omega)
  rcases ixC_spec (fun x : Cal => x.name == c) l 0 with ⟨h1, h2⟩ | ⟨n, x, h1, h2, h4⟩
  · rw [h1] at c1
    rw [h2]
    unfold foundV zeroC
    refine Spec.body (C := cx [] 20) fits (fn := Tryd.f35) Tryd.func35 rfl (by decide) (by decide) (gI ?_)
    repeat' (first | ((first | refine C_r ?_ | refine C0_r ?_ | refine O_r ?_ | refine R_r ?_); (conv => whnf); first | (refine ⟨fun hb => ?_, fun hb => ?_⟩ <;> try exact no_way) | refine A_o ?_ | refine B_o ?_ | refine C_o ?_ | refine R_o ?_ | refine fR ?_ | refine fRk ?_ | refine F_o ?_) | refine C_l (c0) ?_ | refine fun k => WL.crpU [0] [.var [.d (.sc (.string c))]] _ _ c1 (oW ?_ _) | refine SA_l ?_ | refine V_l ?_ | refine L_l ?_ | refine Q_l ?_ | refine X_l ?_ | refine Xa_l ?_ | refine Xs_l ?_ | refine K_l ?_ | refine Ka_l ?_ | refine Lk_l ?_ | refine Up_l ?_ | refine Del_l ?_ | refine St_l ?_ | refine LU_l ?_ | refine Xw_l ?_ | refine Le_l ?_ | refine Se_l ?_ | refine M_l ?_ | refine A_l ?_ | refine A0_l ?_ | refine A1_l ?_ | refine Mk_l ?_ | refine Kz_l ?_ | refine W_l ?_ | fail)
    exact ⟨rfl, rfl⟩
  · have hn : (0 : Int) + (n : Nat) = (n : Int) := by omega
    rw [h2, hn] at c1
    rw [h4]
    unfold foundV
    obtain ⟨xn, xs, xp⟩ := x
    have h5 : (l.map Cal.row1)[((n : Int)).toNat]? = some (Cal.row1 ⟨xn, xs, xp⟩) := by simp [List.getElem?_map, h1]
    have b1 : decide ((n : Int) < 0) = false := decide_eq_false (by omega)
    refine Spec.body (C := cx [] 20) fits (fn := Tryd.f35) Tryd.func35 rfl (by decide) (by decide) (gI ?_)
    repeat' (first | ((first | refine C_r ?_ | refine C0_r ?_ | refine O_r ?_ | refine R_r ?_); (conv => whnf); first | (refine ⟨fun hb => ?_, fun hb => ?_⟩ <;> try exact no_way) | refine A_o ?_ | refine B_o ?_ | refine C_o ?_ | refine R_o ?_ | refine fR ?_ | refine fRk ?_ | refine F_o ?_) | refine C_l (c0) ?_ | refine fun k => WL.crpU [0] [.var [.d (.sc (.string c))]] _ _ c1 (oW ?_ _) | refine SA_l ?_ | refine V_l ?_ | refine L_l ?_ | refine Q_l ?_ | refine X_l ?_ | refine Xa_l ?_ | refine Xs_l ?_ | refine K_l ?_ | refine Ka_l ?_ | refine Lk_l ?_ | refine Up_l ?_ | refine Del_l ?_ | refine St_l ?_ | refine LU_l ?_ | refine Xw_l ?_ | refine Le_l ?_ | refine Se_l ?_ | refine M_l ?_ | refine A_l ?_ | refine A0_l ?_ | refine A1_l ?_ | refine Mk_l ?_ | refine Kz_l ?_ | refine W_l ?_ | fail)
    exact ⟨rfl, rfl⟩
theorem findCallR (a c : ByteArray) (l : List Cal) (hl : l.length < 2 ^ 40) (c0 : Comp Tryd.prog 11 [str a] (lst Cal.row1 l)) : Comp Tryd.prog 5 [str a, str c] (foundV Cal.row1 (l.find? fun x => x.name == c)) := by
  generalize hfb : foundV Cal.row1 (l.find? fun x => x.name == c) = fb
  refine Spec.body (C := cx [] 28) fits (fn := Tryd.f5) Tryd.func5 rfl (by decide) (by decide) (gI ?_)
  refine ST (wc c0 wz) ?_ <;> (repeat' (first | exact Wl.mk | refine wy1 ?_ ?_)) <;> repeat (intro hb; have hx := wy5 hb; clear hx)
  refine wLoop [1, 4, 6, 7] 1 (l.length + 1) ?_
  refine (fun key => key l [] _ rfl rfl hfb.symm :
    (∀ (rest done : List Cal) (j : Int), l = done ++ rest → j = done.length → fb = foundV Cal.row1 (rest.find? fun x => x.name == c) →
    WR2 _ _ _ _ _ (rest.length + 1) [(1, str c), (4, .one (.ptr 0 0)), (6, lst Cal.row1 l), (7, int .i64 j)] [.var [.d (.sc (.string ⟨#[]⟩)), .d (.sc (.int .u32 0)), .d (.sc nilSlice)]]) → _) ?_
  intro rest
  induction rest with
  | nil =>
    intro done j h1 hj hr
    have hlen : l.length = done.length := by rw [h1]; simp
    refine wR (gI ?_)
    refine ST wz ?_ <;> (repeat' (first | exact Wl.mk | refine wy1 ?_ ?_)) <;> repeat (intro hb; have hx := wy5 hb; clear hx)
    exact ⟨by rw [hr]; rfl, rfl⟩
  | cons x rest ih =>
    intro done j h1 hj hr
    have hlen : l.length = done.length + (rest.length + 1) := by rw [h1]; simp
    rw [List.find?_cons] at hr
    obtain ⟨xn, xs, xp⟩ := x
    refine wR (gI ?_)
    refine ST wz ?_ <;> (repeat' (first | exact Wl.mk | refine wy1 ?_ ?_)) <;> repeat (intro hb; have hx := wy5 hb; clear hx)
    · simp only [hb] at hr
      exact ⟨by rw [hr]; rfl, rfl⟩
    · simp only [hb] at hr
      refine rE (ih (done ++ [⟨xn, xs, xp⟩]) _ (by rw [h1]; simp) ?_ hr)
      rw [wrap_ok (by omega) (by omega)]; simp [hj]
def t2 (n : Int) (b : Bool) : V := .tup [.one (.d (.sc (.int .u32 n))), .one (.d (.sc (.bool b)))]
section none_
variable (a : ByteArray) (h0 : (a == ⟨#[97, 97, 114, 99, 104, 54, 52]⟩) = false) (h1 : (a == ⟨#[105, 51, 56, 54]⟩) = false) (h2 : (a == ⟨#[120, 56, 54, 95, 54, 52]⟩) = false)
include h0 h1 h2
theorem nuNo : Comp Tryd.prog 15 [str a] (t2 0 false) := by
  refine Spec.body (C := cx [] 11) fits (fn := Tryd.f15) Tryd.func15 rfl (by decide) (by decide) (gI ?_)
  refine ST wz ?_ <;> (repeat' (first | exact Wl.mk | refine wy1 ?_ ?_)) <;> repeat (intro hb; have hx := wy5 hb; clear hx)
  all_goals exact ⟨rfl, rfl⟩
end none_
end Go.Proofs.YtjjhckmnnaafkaaDoor
namespace Go.Proofs.YtjjhckmnnaafkaaDoor
open Go Go.Am Go.Proofs
attribute [local irreducible] W WL DL WO RoundEnd
set_option maxRecDepth 10000
set_option maxHeartbeats 4000000
/-- a way that ends with fewer objects may have one free place more -/
theorem Spec.fit {P : Program} {f : FuncId} {args : List V} {σ : St} {R R' : V → St → Prop} (h : Am.Spec P f args σ R) (hr : ∀ v s, R v s → R' v s ∨ R' v (s ++ [.dead])) : Am.Spec P f args σ R' := by
  refine ⟨h.1, fun κ w xs hR hx => (h.2 κ w xs hR hx).mono fun _ _ ⟨x, r, κ', σ', h1, h2, h3, h4, h5, h6⟩ => ?_⟩
  rcases hr r σ' h2 with h7 | h7
  · exact ⟨x, r, κ', σ', h1, h7, h3, h4, h5, h6⟩
  · exact ⟨x, r, κ', σ' ++ [.dead], h1, h7, h3, by rw [funext (alive_append σ')]; exact h4, h5.trans Evo.room, h6.room⟩
/-- a copy that is an array of its own -/
theorem cloneA (l : List ByteArray) (hl : l.length ≤ 1000) : Am.Spec Tryd.prog 56 [lst strow l] [.dead, .dead, .dead] (fun v s => v = .one (.arr 1 0 (l.map strow).length) ∧ s = [.arr 0 false 1 [], .arr 0 false 1 (l.map strow), .dead]) := by
  have h : Am.Spec Tryd.prog 56 [lst strow l] [] (fun v s => v = .one (.arr 1 0 (l.map strow).length) ∧ (s = [.arr 0 false 1 [], .arr 0 false 1 (l.map strow)] ∨ s = [.arr 0 false 1 [], .arr 0 false 1 (l.map strow), .dead])) := by
    refine Spec.body (C := cx [(2, false), (5, false)] 8) fits (fn := Tryd.f56) Tryd.func56 rfl (by decide) (by decide) (gI ?_)
    repeat' (first | refine fR' ?_ | ((first | refine C_r ?_ | refine C0_r ?_ | refine O_r ?_ | refine R_r ?_); (conv => whnf); first | (refine ⟨fun hb => ?_, fun hb => ?_⟩ <;> try exact no_way) | refine A_o ?_ | refine B_o ?_ | refine C_o ?_ | refine R_o ?_ | refine fR' ?_ | refine F_o ?_) | refine fun k => lN fits (fun h0 => oW ?_ _) (oW ?_ _) | refine fun k => lA fits (rows := []) (oW ?_ _) (hsm := by simp only [most, List.length_map, List.length_nil]; omega) | refine SA_l ?_ | refine V_l ?_ | refine L_l ?_ | refine Q_l ?_ | refine X_l ?_ | refine Xa_l ?_ | refine Xs_l ?_ | refine K_l ?_ | refine Ka_l ?_ | refine Lk_l ?_ | refine Up_l ?_ | refine Del_l ?_ | refine St_l ?_ | refine LU_l ?_ | refine Xw_l ?_ | refine Le_l ?_ | refine Se_l ?_ | refine M_l ?_ | refine A_l ?_ | refine A0_l ?_ | refine A1_l ?_ | refine Mk_l ?_ | refine Kz_l ?_ | refine W_l ?_ | fail)
    · exact ⟨by rw [h0]; rfl, .inl (by rw [h0])⟩
    · exact ⟨rfl, .inr rfl⟩
  refine Spec.dead 3 (Spec.fit h ?_) rfl (by rintro _ _ ⟨_, rfl⟩; simp)
  rintro v s ⟨rfl, rfl | rfl⟩
  · exact .inr ⟨rfl, rfl⟩
  · exact .inl ⟨rfl, rfl⟩
def psV (q : List ByteArray × Int) : V := .tup [.one (.d (.list (q.1.map strow))), .one (.d (.sc (.int .i64 q.2)))]
theorem paramsR (rc : ByteArray) (rp : List ByteArray) (rx : List Ex) (c : Cal) (hp : rp.length ≤ 100) (hc : c.ps.length ≤ 100) : Comp Tryd.prog 36 [.agg ((Rule.row ⟨rc, rp, rx⟩).map .d), .agg (c.row1.map .d)] (psV (paramsF rp c.ps)) := by
  obtain ⟨cn, cnr, cp⟩ := c
  simp only at hc
  generalize hfb : paramsF rp cp = fb
  have c1 := cloneA rp (by omega)
  refine Spec.body (C := cx [] 40) fits (fn := Tryd.f36) Tryd.func36 rfl (by decide) (by decide) (gI ?_)
  refine gRoom ?_
  refine gRoom ?_
  refine gRoom ?_
  refine ST wz ?_ <;> (repeat' (first | exact Wl.mk | refine wy1 ?_ ?_)) <;> repeat (intro hb; have hx := wy5 hb; clear hx)
  · have h : rp.length > cp.length := by simpa using hb
    have hf : fb = ([], 9) := by rw [← hfb, paramsF, if_pos h]
    exact ⟨by rw [hf]; rfl, rfl⟩
  have h : ¬ rp.length > cp.length := by simpa using hb
  refine wLoop [2, 3, 16, 17, 18] 5 (rp.length + 1) ?_
  refine (fun key => key rp [] _ rfl rfl rfl :
    (∀ (rest done : List ByteArray) (j : Int), rp = done ++ rest → j = done.length → dupS [] rp = dupS done rest →
    WR2 _ _ _ _ _ (rest.length + 1) [(2, .one (.ptr 3 0)), (3, .one (.ptr 4 0)), (16, lst strow rp), (17, int .i64 (rp.map strow).length), (18, int .i64 j)]
      [.dead, .dead, .dead, .var [.d (.sc (.string rc)), .d (.list (rp.map strow)), .d (.list (rx.map Ex.row))], .var [.d (.sc (.string cn)), .d (.sc (.int .u32 cnr)), .d (.list (cp.map strow))]]) → _) ?_
  intro rest
  induction rest with
  | nil =>
    intro done j h1 hj hr
    have hlen : rp.length = done.length := by rw [h1]; simp
    have hdr : ((cp.map strow).take ((cp.map strow).length : Int).toNat).drop ((rp.map strow).length : Int).toNat = (cp.drop rp.length).map strow := by rw [Int.toNat_natCast, Int.toNat_natCast, List.take_length, List.length_map, List.map_drop]
    have hf : fb = (rp ++ cp.drop rp.length, 0) := by rw [← hfb, paramsF, if_neg h, hr]; rfl
    refine wR (gI ?_)
    repeat' (first | ((first | refine C_r ?_ | refine C0_r ?_ | refine O_r ?_ | refine R_r ?_); (conv => whnf); first | (refine ⟨fun hb => ?_, fun hb => ?_⟩ <;> try exact no_way) | refine A_o ?_ | refine B_o ?_ | refine C_o ?_ | refine R_o ?_ | refine fR ?_ | refine fRk ?_ | refine F_o ?_) | refine SA_l ?_ | refine V_l ?_ | refine L_l ?_ | refine Q_l ?_ | refine X_l ?_ | refine Xa_l ?_ | refine Xs_l ?_ | refine K_l ?_ | refine Ka_l ?_ | refine Lk_l ?_ | refine Up_l ?_ | refine Del_l ?_ | refine St_l ?_ | refine LU_l ?_ | refine Xw_l ?_ | refine Le_l ?_ | refine Se_l ?_ | refine M_l ?_ | refine A_l ?_ | refine A0_l ?_ | refine A1_l ?_ | refine Mk_l ?_ | refine Kz_l ?_ | refine W_l ?_ | refine fun k => DL.crp [0, 1, 2] [.dead, .dead, .dead] _ _ c1 (oD ?_ _) rfl rfl | refine K_d (a := some ((rp.map strow).length : Int)) (b := none) ?_ (h1 := by show (0 : Int) ≤ ((rp.map strow).length : Int); omega) (h2 := by show ((rp.map strow).length : Int) ≤ ((cp.map strow).length : Int); rw [List.length_map, List.length_map]; omega) (h3 := Int.le_refl _) (rows' := (cp.drop rp.length).map strow) (hr := hdr) | refine A_d ?_ (hsm := by simp only [most, List.length_map, List.length_drop]; omega) | refine SA_d ?_ | refine V_d ?_ | refine L_d ?_ | refine Q_d ?_ | refine X_d ?_ | refine Xs_d ?_ | refine K_d ?_ | refine Ka_d ?_ | refine Lk_d ?_ | refine Up_d ?_ | refine A_d ?_ | refine A0_d ?_ | refine St_d ?_ | refine LU_d ?_ | refine Xw_d ?_ | refine Le_d ?_ | refine Se_d ?_ | refine M_d ?_ | refine Mk_d ?_ | refine N_d ?_ | refine Kz_d ?_ | refine W_d ?_ | fail)
    exact ⟨by rw [hf]; simp [psV], rfl⟩
  | cons x rest ih =>
    intro done j h1 hj hr
    have hlen : rp.length = done.length + (rest.length + 1) := by rw [h1]; simp
    have hx := containsR done x (by omega)
    have htk : ((rp.map strow).take j.toNat).drop 0 = done.map strow := by rw [h1, hj]; simp
    rw [dupS] at hr
    generalize done.any (x == ·) = b at hx hr
    have hx2 : Comp Tryd.prog 41 [.one (.d (.list (((rp.map strow).take j.toNat).drop 0))), str x] (bool b) := by rw [htk]; exact hx
    cases b with
    | true =>
      refine wR (gI ?_)
      refine ST (wc hx2 wz) ?_ <;> (repeat' (first | exact Wl.mk | refine wy1 ?_ ?_)) <;> repeat (intro hb; have hx := wy5 hb; clear hx)
      have hf : fb = ([], 8) := by rw [← hfb, paramsF, if_neg h, hr]; rfl
      exact ⟨by rw [hf]; rfl, rfl⟩
    | false =>
      refine wR (gI ?_)
      refine ST (wc hx2 wz) ?_ <;> (repeat' (first | exact Wl.mk | refine wy1 ?_ ?_)) <;> repeat (intro hb; have hx := wy5 hb; clear hx)
      refine rE (ih (done ++ [x]) _ (by rw [h1]; simp) ?_ hr)
      rw [wrap_ok (by omega) (by omega)]; simp [hj]
end Go.Proofs.YtjjhckmnnaafkaaDoor
namespace Go.Proofs.YtjjhckmnnaafkaaDoor
open Go Go.Am Go.Proofs
attribute [local irreducible] W WL DL WO RoundEnd
set_option maxRecDepth 10000
set_option maxHeartbeats 4000000
def bdV (q : Bd × Int) : V := .tup [.agg (q.1.row.map .d), .one (.d (.sc (.int .i64 q.2)))]
def calO (o : Option Cal) : Option (Int × List ByteArray) := o.map fun x => (x.nr, x.ps)
theorem params_len (rp cp : List ByteArray) : (paramsF rp cp).1.length ≤ rp.length + cp.length := by
  unfold paramsF
  split
  · exact Nat.zero_le _
  · split
    · exact Nat.zero_le _
    · simp only [List.length_append, List.length_drop]; omega
theorem brule_nil (ds : List Def) (nr : Int) (cp : List ByteArray) (rc : ByteArray) (rp : List ByteArray) (a : Act) : bruleF ds (some (nr, cp)) ⟨rc, rp, []⟩ a = if (paramsF rp cp).2 = 0 then (⟨nr, a, .mk 1 atm0 []⟩, 0) else (bd0, (paramsF rp cp).2) := rfl
theorem brule_cons (ds : List Def) (nr : Int) (cp : List ByteArray) (rc : ByteArray) (rp : List ByteArray) (x : Ex) (l : List Ex) (a : Act) : bruleF ds (some (nr, cp)) ⟨rc, rp, x :: l⟩ a = if (paramsF rp cp).2 = 0 then (if (cndF ds (paramsF rp cp).1 x).2 = 0 then (⟨nr, a, (cndF ds (paramsF rp cp).1 x).1⟩, 0) else (bd0, (cndF ds (paramsF rp cp).1 x).2)) else (bd0, (paramsF rp cp).2) := rfl
def condsFine (l : List Ex) : Prop := ∀ e ∈ l, e.nok ∧ e.ok ∧ condOk e
theorem ruleB (u : Un) (a : ByteArray) (r : Rule) (act : Act) (o : Option Cal) (cf : Comp Tryd.prog 35 [str a, str r.call] (foundV Cal.row1 o)) (hc : ∀ x, o = some x → x.ps.length ≤ 100) (hp : r.params.length ≤ 100) (hq : r.cond.length ≤ 1)
    (hx : condsFine r.cond) (hds : u.defs.length < 2 ^ 40) (hdn : ∀ d ∈ u.defs, d.expr.nok) :
    Comp Tryd.prog 19 [.agg u.cells, str a, .agg (r.row.map .d), .agg (act.row.map .d)] (bdV (bruleF u.defs (calO o) r act)) := by
  obtain ⟨ds, pls, mn, df⟩ := u
  obtain ⟨rc, rp, rx⟩ := r
  obtain ⟨ak, ad⟩ := act
  simp only at *
  cases o with
  | none =>
    unfold foundV zeroC at cf
    refine Spec.body (C := cx [] 66) fits (fn := Tryd.f19) Tryd.func19 rfl (by decide) (by decide) (gI ?_)
    refine ST (wc cf wz) ?_ <;> (repeat' (first | exact Wl.mk | refine wy1 ?_ ?_)) <;> repeat (intro hb; have hx := wy5 hb; clear hx)
    exact ⟨rfl, rfl⟩
  | some x =>
    have c2 := paramsR rc rp rx x hp (hc x rfl)
    have hps := params_len rp x.ps
    have hcx := hc x rfl
    obtain ⟨xn, xr, xp⟩ := x
    simp only at hps hcx c2
    show Comp Tryd.prog _ _ (bdV (bruleF ds (some (xr, xp)) ⟨rc, rp, rx⟩ ⟨ak, ad⟩))
    unfold foundV at cf
    unfold psV at c2
    rcases rx with _ | ⟨e, _ | ⟨e2, rx⟩⟩
    · rw [brule_nil]
      generalize paramsF rp xp = q at *
      obtain ⟨q1, q2⟩ := q
      simp only at hps c2 ⊢
      refine Spec.body (C := cx [] 66) fits (fn := Tryd.f19) Tryd.func19 rfl (by decide) (by decide) (gI ?_)
      refine ST (wc cf (wc c2 wz)) ?_ <;> (repeat' (first | exact Wl.mk | refine wy1 ?_ ?_)) <;> repeat (intro hb; have hx := wy5 hb; clear hx)
      · exact ⟨by rw [if_neg (bz1 hb)]; rfl, rfl⟩
      · refine W.rounds 1 ?_
        refine WR.step (gI ?_)
        refine ST wz ?_ <;> (repeat' (first | exact Wl.mk | refine wy1 ?_ ?_)) <;> repeat (intro hb; have hx := wy5 hb; clear hx)
        exact ⟨by rw [if_pos (bz0 ‹_›)]; rfl, rfl⟩
    · rw [brule_cons]
      generalize paramsF rp xp = q at *
      obtain ⟨q1, q2⟩ := q
      simp only at hps c2 ⊢
      obtain ⟨k1, k2, k3⟩ := hx e (by simp)
      have c3 := cndR ds q1 hds hdn (by omega) _ e (Nat.lt_succ_self _) k1 k2 k3
      generalize cndF ds q1 e = w at c3 ⊢
      obtain ⟨⟨wk, ⟨w2, w3, w4, w5⟩, wl⟩, w6⟩ := w
      obtain ⟨ek, eo, em, eu, el⟩ := e
      simp only
      refine Spec.body (C := cx [] 66) fits (fn := Tryd.f19) Tryd.func19 rfl (by decide) (by decide) (gI ?_)
      refine ST (wc cf (wc c2 wz)) ?_ <;> (repeat' (first | exact Wl.mk | refine wy1 ?_ ?_)) <;> repeat (intro hb; have hx := wy5 hb; clear hx)
      · exact ⟨by rw [if_neg (bz1 hb)]; rfl, rfl⟩
      · have hq0 := bz0 hb
        refine W.rounds 2 ?_
        refine WR.step (gI ?_)
        repeat' (first | ((first | refine C_r ?_ | refine C0_r ?_ | refine O_r ?_ | refine R_r ?_); (conv => whnf); first | (refine ⟨fun hb => ?_, fun hb => ?_⟩ <;> try exact no_way) | refine A_o ?_ | refine B_o ?_ | refine C_o ?_ | refine R_o ?_ | refine fR ?_ | refine fRk ?_ | refine F_o ?_) | refine fun k => WL.cr' [7] (bndO ds q1) _ c3 rfl rfl rfl rfl rfl ⟨rfl, trivial⟩ rfl rfl rfl rfl (oW ?_ _) | refine SA_l ?_ | refine V_l ?_ | refine L_l ?_ | refine Q_l ?_ | refine X_l ?_ | refine Xa_l ?_ | refine Xs_l ?_ | refine K_l ?_ | refine Ka_l ?_ | refine Lk_l ?_ | refine Up_l ?_ | refine Del_l ?_ | refine St_l ?_ | refine LU_l ?_ | refine Xw_l ?_ | refine Le_l ?_ | refine Se_l ?_ | refine M_l ?_ | refine A_l ?_ | refine A0_l ?_ | refine A1_l ?_ | refine Mk_l ?_ | refine Kz_l ?_ | refine W_l ?_ | fail)
        · exact ⟨by rw [if_pos hq0, if_neg (bz1 hb)]; rfl, rfl⟩
        · exact ⟨by rw [if_pos hq0, if_pos (bz0 ‹_›)]; rfl, rfl⟩
    · simp at hq
end Go.Proofs.YtjjhckmnnaafkaaDoor
namespace Go.Proofs.YtjjhckmnnaafkaaDoor
open Go Go.Am Go.Proofs
attribute [local irreducible] W WL DL WO RoundEnd
set_option maxRecDepth 10000
set_option maxHeartbeats 4000000
end Go.Proofs.YtjjhckmnnaafkaaDoor
namespace Go.Proofs.YtjjhckmnnaafkaaDoor
open Go Go.Am Go.Proofs
attribute [local irreducible] W WL DL WO RoundEnd
set_option maxRecDepth 10000
set_option maxHeartbeats 4000000
def Pol.eqb (a b : Pol) : Bool := a.name == b.name && pw Part.eqb a.parts b.parts
def Def.eqb (a b : Def) : Bool := a.name == b.name && a.expr.eqb b.expr
def Pol.okS (p : Pol) : Prop := p.parts.length < 2 ^ 60 ∧ ∀ x ∈ p.parts, x.ok
def Un.ok (u : Un) : Prop := u.defs.length < 2 ^ 60 ∧ (∀ d ∈ u.defs, d.expr.ok) ∧ u.pols.length < 2 ^ 60 ∧ (∀ p ∈ u.pols, p.okS) ∧ u.main.length < 2 ^ 60
def Un.eqb (a b : Un) : Bool := pw Def.eqb a.defs b.defs && (pw Pol.eqb a.pols b.pols && (pw (· == ·) a.main b.main && (a.dflt.kind == b.dflt.kind && (a.dflt.data == b.dflt.data && true))))
end Go.Proofs.YtjjhckmnnaafkaaDoor
namespace Go.Proofs.YtjjhckmnnaafkaaDoor
open Go Go.Am Go.Proofs
/-! what is few is good -/
theorem sizesF_ge : ∀ (l : List Ex) (d : Nat) (n : Int), d ≤ 101 → n ≤ sizesF l d n
  | [], d, n, _ => by rw [sizesF]; exact Int.le_refl _
  | x :: l, d, n, h => by
    rw [sizesF]
    have hx := sizeF_le x d h
    split
    · have := sizesF_ge l d (n + sizeF x d) h; omega
    · exact Int.le_refl _
mutual
theorem sizeF_eq : ∀ (e : Ex) (d : Nat), d ≤ 101 → sizeF e d < 1000 → sizeF e d = e.size ∧ e.nok
  | .mk k o n u l, d, h, hs => by
    rw [sizeF] at hs ⊢
    split at hs
    · omega
    · rename_i hn
      rw [if_neg hn]
      have := sizesF_eq l (d + 1) 1 (by omega) (by omega) hs
      rw [Ex.size]
      exact ⟨by rw [this.1]; omega, by omega, this.2⟩
theorem sizesF_eq : ∀ (l : List Ex) (d : Nat) (n : Int), d ≤ 101 → 0 ≤ n → sizesF l d n < 1000 → sizesF l d n = n + (Ex.sizes l : Int) ∧ Ex.noks l
  | [], d, n, _, _, _ => by rw [sizesF, Ex.sizes]; exact ⟨by omega, trivial⟩
  | x :: l, d, n, h, h0, hs => by
    rw [sizesF] at hs ⊢
    have hx := sizeF_le x d h
    split at hs
    · rename_i hn
      rw [if_pos hn]
      have hge := sizesF_ge l d (n + sizeF x d) h
      have h1 := sizeF_eq x d h (by omega)
      have h2 := sizesF_eq l d (n + sizeF x d) h (by omega) hs
      rw [Ex.sizes]
      refine ⟨?_, h1.2, h2.2⟩
      rw [h2.1, h1.1]; omega
    · omega
end
theorem size_pos : ∀ e : Ex, 1 ≤ e.size
  | .mk _ _ _ _ l => by rw [Ex.size]; omega
theorem sizes_len : ∀ l : List Ex, l.length ≤ Ex.sizes l
  | [] => Nat.zero_le _
  | x :: l => by have := sizes_len l; have := size_pos x; simp only [Ex.sizes, List.length_cons]; omega
mutual
theorem ok_of_size : ∀ (e : Ex), e.size ≤ 1000 → e.ok
  | .mk _ _ _ _ l, h => by
    rw [Ex.size] at h
    have := sizes_len l
    exact ⟨by omega, oks_of_size l (by omega)⟩
theorem oks_of_size : ∀ (l : List Ex), Ex.sizes l ≤ 1000 → Ex.oks l
  | [], _ => trivial
  | x :: l, h => by
    rw [Ex.sizes] at h
    exact ⟨ok_of_size x (by omega), oks_of_size l (by omega)⟩
end
theorem few_size {e : Ex} (h : few e = true) : e.size ≤ 300 ∧ e.nok := by
  simp only [few, decide_eq_true_eq] at h
  have := sizeF_eq e 0 (by omega) (by omega)
  exact ⟨by omega, this.2⟩
theorem few_good {e : Ex} (h : few e = true) : e.good := ⟨(few_size h).2, by have := (few_size h).1; omega⟩
theorem few_ok {e : Ex} (h : few e = true) : e.ok := ok_of_size e (by have := (few_size h).1; omega)
theorem oks_of : ∀ (l : List Ex), (∀ e ∈ l, e.ok) → Ex.oks l
  | [], _ => trivial
  | x :: l, h => ⟨h x (by simp), oks_of l fun e he => h e (by simp [he])⟩
theorem fewRule_out {r : Rule} (h : fewRule r = true) : r.good ∧ r.ok := by
  simp only [fewRule, Bool.and_eq_true, decide_eq_true_eq, List.all_eq_true] at h
  obtain ⟨h1, h2, h3, h4, h5⟩ := h
  refine ⟨⟨by omega, by omega, fun s hs => by have := h4 s hs; omega, by omega, fun e he => few_good (h5 e he)⟩, by omega, by omega, oks_of _ fun e he => few_ok (h5 e he)⟩
theorem fewPart_out {p : Part} (h : fewPart p = true) : p.good ∧ p.ok := by
  simp only [fewPart, Bool.and_eq_true, decide_eq_true_eq, List.all_eq_true] at h
  obtain ⟨h1, h2, h3⟩ := h
  exact ⟨⟨by omega, by omega, fun r hr => (fewRule_out (h3 r hr)).1⟩, by omega, fun r hr => (fewRule_out (h3 r hr)).2⟩
theorem fewPol_out {p : Pol} (h : fewPol p = true) : p.good ∧ p.okS := by
  simp only [fewPol, Bool.and_eq_true, decide_eq_true_eq, List.all_eq_true] at h
  obtain ⟨h1, h2, h3⟩ := h
  exact ⟨⟨by omega, by omega, fun r hr => (fewPart_out (h3 r hr)).1⟩, by omega, fun r hr => (fewPart_out (h3 r hr)).2⟩
theorem fewUnit_out {u : Un} (h : fewUnit u = true) : u.good ∧ u.ok := by
  simp only [fewUnit, Bool.and_eq_true, decide_eq_true_eq, List.all_eq_true] at h
  obtain ⟨h1, h2, h3, h4, h5, h6, _⟩ := h
  have hd : ∀ d ∈ u.defs, few d.expr = true ∧ d.name.size ≤ 60 := fun d hd => by
    have := h4 d hd
    simpa [fewDef] using this
  exact ⟨⟨by omega, fun d hdm => ⟨by have := (hd d hdm).2; omega, few_good (hd d hdm).1⟩, by omega, fun p hp => (fewPol_out (h6 p hp)).1, by omega, fun s hs => by have := h5 s hs; omega⟩,
    by omega, fun d hdm => few_ok (hd d hdm).1, by omega, fun p hp => (fewPol_out (h6 p hp)).2, by omega⟩
theorem Pol.eqb_refl (p : Pol) : p.eqb p = true := by simp [Pol.eqb, ba_beq, pw_refl Part.eqb_refl]
theorem Def.eqb_refl (d : Def) : d.eqb d = true := by simp [Def.eqb, ba_beq, Ex.eqb_refl]
theorem Un.eqb_refl (u : Un) : u.eqb u = true := by
  simp only [Un.eqb, pw_refl Def.eqb_refl, pw_refl Pol.eqb_refl, beq_self_eq_true, Bool.and_self, Bool.true_and, Bool.and_true]
  exact pw_refl (fun x => by simp [ba_beq]) _
end Go.Proofs.YtjjhckmnnaafkaaDoor
namespace Go.Proofs.YtjjhckmnnaafkaaDoor
open Go Go.Am Go.Proofs
attribute [local irreducible] W WL DL WO RoundEnd
set_option maxRecDepth 10000
set_option maxHeartbeats 4000000
end Go.Proofs.YtjjhckmnnaafkaaDoor
namespace Go.Proofs.YtjjhckmnnaafkaaDoor
open Go Go.Am Go.Proofs
attribute [local irreducible] W WL DL WO RoundEnd
set_option maxRecDepth 10000
set_option maxHeartbeats 4000000
end Go.Proofs.YtjjhckmnnaafkaaDoor
namespace Go.Proofs.YtjjhckmnnaafkaaDoor
open Go Go.Am Go.Proofs
attribute [local irreducible] W WL DL WO RoundEnd
set_option maxRecDepth 10000
set_option maxHeartbeats 4000000
end Go.Proofs.YtjjhckmnnaafkaaDoor
namespace Go.Proofs.YtjjhckmnnaafkaaDoor
open Go Go.Am Go.Proofs
attribute [local irreducible] W WL DL WO RoundEnd
set_option maxRecDepth 10000
set_option maxHeartbeats 4000000
end Go.Proofs.YtjjhckmnnaafkaaDoor
namespace Go.Proofs.YtjjhckmnnaafkaaDoor
open Go Go.Am Go.Proofs
end Go.Proofs.YtjjhckmnnaafkaaDoor
namespace Go.Proofs.YtjjhckmnnaafkaaDoor
open Go Go.Am Go.Proofs
attribute [local irreducible] W WL DL WO RoundEnd
set_option maxRecDepth 10000
set_option maxHeartbeats 4000000
theorem nt {b : Bool} (h : (!b) = true) : b = false := by simpa using h
theorem nf {b : Bool} (h : (!b) = false) : b = true := by simpa using h
def Atm.eqb (a b : Atm) : Bool := a.arg == b.arg && (a.op == b.op && (a.mask == b.mask && (a.val == b.val && true)))
mutual
def Cd.eqb : Cd → Cd → Bool
  | .mk k a l, .mk k' a' l' => k == k' && (a.eqb a' && Cd.eqbs l l')
def Cd.eqbs : List Cd → List Cd → Bool
  | [], [] => true
  | x :: l, y :: m => Cd.eqb x y && Cd.eqbs l m
  | [], _ :: _ => false
  | _ :: _, [] => false
end
mutual
def Cd.size : Cd → Nat
  | .mk _ _ l => Cd.sizes l + 1
def Cd.sizes : List Cd → Nat
  | [] => 0
  | x :: l => Cd.size x + Cd.sizes l
end
mutual
def Cd.ok : Cd → Prop
  | .mk _ _ l => l.length ≤ 2000000000000 ∧ Cd.oks l
def Cd.oks : List Cd → Prop
  | [] => True
  | x :: l => Cd.ok x ∧ Cd.oks l
end
theorem Cd.oks_mem : ∀ {l : List Cd} {x : Cd}, Cd.oks l → x ∈ l → x.ok
  | [], _, _, h => by simp at h
  | y :: l, x, h, hm => by
    rcases List.mem_cons.1 hm with rfl | hm
    · exact h.1
    · exact Cd.oks_mem h.2 hm
theorem Cd.size_mem : ∀ {l : List Cd} {x : Cd}, x ∈ l → x.size ≤ Cd.sizes l
  | [], _, h => by simp at h
  | y :: l, x, hm => by
    rw [Cd.sizes]
    rcases List.mem_cons.1 hm with rfl | hm
    · omega
    · have := Cd.size_mem hm; omega
theorem Cd.eqbs_len : ∀ {l m : List Cd}, l.length ≠ m.length → Cd.eqbs l m = false
  | [], [], h => absurd rfl h
  | [], _ :: _, _ => rfl
  | _ :: _, [], _ => rfl
  | x :: l, y :: m, h => by simp only [Cd.eqbs]; rw [Cd.eqbs_len (by simpa using h)]; simp
mutual
theorem Cd.eqb_refl : ∀ c : Cd, c.eqb c = true
  | .mk k a l => by simp [Cd.eqb, Atm.eqb, Cd.eqbs_refl l]
theorem Cd.eqbs_refl : ∀ l : List Cd, Cd.eqbs l l = true
  | [] => rfl
  | x :: l => by simp [Cd.eqbs, Cd.eqb_refl x, Cd.eqbs_refl l]
end
theorem sameCd : ∀ (n : Nat) (a b : Cd), a.size < n → a.ok → Comp Tryd.prog 20 [.agg (a.row.map .d), .agg (b.row.map .d)] (bool (a.eqb b)) := by
  intro n
  induction n with
  | zero => intro a b h; omega
  | succ n IH =>
  intro a b hn hok
  obtain ⟨k, ⟨a1, a2, a3, a4⟩, l⟩ := a
  obtain ⟨k', ⟨b1, b2, b3, b4⟩, m⟩ := b
  have el : Cd.rows l = l.map Cd.row := Cd.rows_eq l
  have em : Cd.rows m = m.map Cd.row := Cd.rows_eq m
  simp only [Cd.row, el, em, List.map_cons, List.map_nil]
  refine Spec.body (C := cx [] 46) fits (fn := Tryd.f20) Tryd.func20 rfl (by decide) (by decide) (gI ?_)
  refine ST wz ?_ <;> (repeat' (first | exact Wl.mk | refine wy1 ?_ ?_)) <;> repeat (intro hb; have hx := wy5 hb; clear hx)
  · exact ⟨by simp only [Bool.not_eq_true'] at hb; rw [Cd.eqb, hb]; rfl, rfl⟩
  · rename_i h1
    exact ⟨by simp only [Bool.not_eq_true', Bool.not_eq_false'] at *; rw [Cd.eqb, h1, show Atm.eqb ⟨a1, a2, a3, a4⟩ ⟨b1, b2, b3, b4⟩ = false from hb]; rfl, rfl⟩
  · refine ⟨?_, rfl⟩
    have hne : l.length ≠ m.length := by simp at hb; omega
    rw [Cd.eqb, Cd.eqbs_len hne]; simp; rfl
  rename_i h1 h2
  simp only [Bool.not_eq_false'] at h1 h2
  have hlm : l.length = m.length := by simp at hb; omega
  have hres : (Cd.mk k ⟨a1, a2, a3, a4⟩ l).eqb (Cd.mk k' ⟨b1, b2, b3, b4⟩ m) = Cd.eqbs l m := by rw [Cd.eqb, h1, show Atm.eqb ⟨a1, a2, a3, a4⟩ ⟨b1, b2, b3, b4⟩ = true from h2]; rfl
  rw [hres]
  have hll : l.length < 2 ^ 43 := by have := hok.1; omega
  refine wLoop [2, 3, 5] 2 (l.length + 1) ?_
  refine (fun key => key l m [] [] _ rfl rfl rfl rfl (by omega) rfl : (∀ (r1 r2 d1 d2 : List Cd) (j : Int), l = d1 ++ r1 → m = d2 ++ r2 → j = d1.length → j = d2.length → r1.length = r2.length → Cd.eqbs l m = Cd.eqbs r1 r2 →
    WR2 _ _ _ _ _ (r1.length + 1) [(2, .one (.ptr 0 0)), (3, .one (.ptr 1 0)), (5, int .i64 j)] [.var [.d (.sc (.int .i64 k)), .d (.sc (.int .i64 a1)), .d (.sc (.int .i64 a2)), .d (.sc (.int .u64 a3)), .d (.sc (.int .u64 a4)), .d (.list (l.map Cd.row))],
      .var [.d (.sc (.int .i64 k')), .d (.sc (.int .i64 b1)), .d (.sc (.int .i64 b2)), .d (.sc (.int .u64 b3)), .d (.sc (.int .u64 b4)), .d (.list (m.map Cd.row))]]) → _) ?_
  intro r1
  induction r1 with
  | nil =>
    intro r2 d1 d2 j g1 g2 hj hj2 hr hs
    have hlen : l.length = d1.length := by subst g1; simp
    have : r2 = [] := List.length_eq_zero_iff.1 (by simpa using hr.symm)
    subst this
    refine wR (gI ?_)
    refine ST wz ?_ <;> (repeat' (first | exact Wl.mk | refine wy1 ?_ ?_)) <;> repeat (intro hb; have hx := wy5 hb; clear hx)
    exact ⟨by rw [hs]; rfl, rfl⟩
  | cons x r1 ih =>
    intro r2 d1 d2 j g1 g2 hj hj2 hr hs
    rcases r2 with _ | ⟨y, r2⟩
    · simp at hr
    have hlen : l.length = d1.length + (r1.length + 1) := by subst g1; simp
    have hxm : x ∈ l := by subst g1; simp
    have hsz := Cd.size_mem hxm
    have hc := IH x y (by rw [Cd.size] at hn; omega) (Cd.oks_mem hok.2 hxm)
    obtain ⟨xk, ⟨x1, x2, x3, x4⟩, xl⟩ := x
    obtain ⟨yk, ⟨y1, y2, y3, y4⟩, yl⟩ := y
    refine wR (gI ?_)
    refine SBD wz (wc hc wz) ?_ <;> (repeat' (first | exact Wl.mk | refine wy1 ?_ ?_)) <;> repeat (intro hb; have hx := wy5 hb; clear hx)
    · refine rE (ih r2 (d1 ++ [Cd.mk xk ⟨x1, x2, x3, x4⟩ xl]) (d2 ++ [Cd.mk yk ⟨y1, y2, y3, y4⟩ yl]) _ ?_ ?_ ?_ ?_ ?_ ?_)
      · simp [g1]
      · simp [g2]
      · rw [wrap_ok (by omega) (by omega)]; simp [hj]
      · rw [wrap_ok (by omega) (by omega)]; simp [hj2]
      · simpa using hr
      · rw [hs, Cd.eqbs, ‹(Cd.mk xk ⟨x1, x2, x3, x4⟩ xl).eqb (Cd.mk yk ⟨y1, y2, y3, y4⟩ yl) = true›]; rfl
    · refine ⟨?_, rfl⟩
      rw [hs, Cd.eqbs, ‹(Cd.mk xk ⟨x1, x2, x3, x4⟩ xl).eqb (Cd.mk yk ⟨y1, y2, y3, y4⟩ yl) = false›]; rfl
def Bd.eqb (a b : Bd) : Bool := a.nr == b.nr && ((a.act.kind == b.act.kind && (a.act.data == b.act.data && true)) && a.cond.eqb b.cond)
theorem sameBds (a b : List Bd) (hla : a.length < 2 ^ 60) (hok : ∀ x ∈ a, x.cond.ok) : Comp Tryd.prog 10 [lst Bd.row a, lst Bd.row b] (bool (pw Bd.eqb a b)) := by
  refine Spec.body (C := cx [] 55) fits (fn := Tryd.f10) Tryd.func10 rfl (by decide) (by decide) (gI ?_)
  refine ST wz ?_ <;> (repeat' (first | exact Wl.mk | refine wy1 ?_ ?_)) <;> repeat (intro hb; have hx := wy5 hb; clear hx)
  · refine ⟨?_, rfl⟩
    simp at hb
    rw [pw_len (by omega)]; rfl
  simp at hb
  refine wLoop [0, 1, 5] 0 (a.length + 1) ?_
  refine (fun key => key a b [] [] _ rfl rfl rfl rfl (by omega) rfl : (∀ (r1 r2 d1 d2 : List Bd) (j : Int), a = d1 ++ r1 → b = d2 ++ r2 → j = d1.length → j = d2.length → r1.length = r2.length → pw Bd.eqb a b = pw Bd.eqb r1 r2 →
    WR2 _ _ _ _ _ (r1.length + 1) [(0, lst Bd.row a), (1, lst Bd.row b), (5, int .i64 j)] []) → _) ?_
  intro r1
  induction r1 with
  | nil =>
    intro r2 d1 d2 j h1 h2 hj hj2 hr hs
    have hlen : a.length = d1.length := by subst h1; simp
    have : r2 = [] := List.length_eq_zero_iff.1 (by simpa using hr.symm)
    subst this
    refine wR (gI ?_)
    refine ST wz ?_ <;> (repeat' (first | exact Wl.mk | refine wy1 ?_ ?_)) <;> repeat (intro hb; have hx := wy5 hb; clear hx)
    exact ⟨by rw [hs]; rfl, rfl⟩
  | cons x r1 ih =>
    intro r2 d1 d2 j h1 h2 hj hj2 hr hs
    rcases r2 with _ | ⟨y, r2⟩
    · simp at hr
    have hlen : a.length = d1.length + (r1.length + 1) := by subst h1; simp
    have hc := sameCd _ x.cond y.cond (Nat.lt_succ_self _) (hok x (by rw [h1]; simp))
    have hs2 : pw Bd.eqb a b = ((x.nr == y.nr && ((x.act.kind == y.act.kind && (x.act.data == y.act.data && true)) && x.cond.eqb y.cond)) && pw Bd.eqb r1 r2) := by rw [hs, pw]; rfl
    have g1 := at_mid (f := Bd.row) h1 hj
    have g2 := at_mid (f := Bd.row) h2 hj2
    have gn := ih r2 (d1 ++ [x]) (d2 ++ [y]) (IntKind.wrap .i64 (j + 1)) (by simp [h1]) (by simp [h2]) (by rw [wrap_ok (by omega) (by omega)]; simp [hj]) (by rw [wrap_ok (by omega) (by omega)]; simp [hj2]) (by simpa using hr)
    obtain ⟨xr, ⟨xk, xd⟩, ⟨ck, ⟨c1, c2, c3, c4⟩, cl⟩⟩ := x
    obtain ⟨yr, ⟨yk, yd⟩, ⟨ek, ⟨e1, e2, e3, e4⟩, el⟩⟩ := y
    simp only at hc hs2
    refine wR (gI ?_)
    refine SBD wz (wc hc wz) ?_ <;> (repeat' (first | exact Wl.mk | refine wy1 ?_ ?_)) <;> repeat (intro hb; have hx := wy5 hb; clear hx)
    · have h3 : (xr == yr) = false := nt hb
      exact ⟨by rw [hs2, h3]; rfl, rfl⟩
    · have h3 : (xk == yk && (xd == yd && true)) = false := nt hb
      exact ⟨by rw [hs2, h3, Bool.false_and, Bool.and_false, Bool.false_and]; rfl, rfl⟩
    · have k1 : (xr == yr) = true := nf ‹(!(xr == yr)) = false›
      have k2 : (xk == yk && (xd == yd && true)) = true := nf ‹(!(xk == yk && (xd == yd && true))) = false›
      rw [k1, k2, ‹(Cd.mk ck ⟨c1, c2, c3, c4⟩ cl).eqb (Cd.mk ek ⟨e1, e2, e3, e4⟩ el) = true›] at hs2
      exact rE (gn (by rw [hs2]; rfl))
    · exact ⟨by rw [hs2, ‹(Cd.mk ck ⟨c1, c2, c3, c4⟩ cl).eqb (Cd.mk ek ⟨e1, e2, e3, e4⟩ el) = false›, Bool.and_false, Bool.and_false, Bool.false_and]; rfl, rfl⟩
theorem Bd.eqb_refl (x : Bd) : x.eqb x = true := by simp [Bd.eqb, Cd.eqb_refl]
/-! what is right can be bound -/
theorem comp_out {k : Ex} (h : comparedF k = true) : k.kind = 6 → ∃ o n u x, k = .mk 6 o n u [x] := by
  intro h6
  have hin := whatF_in k
  obtain ⟨kd, o, n, u, l⟩ := k
  have h6 : kd = 6 := h6
  subst h6
  unfold comparedF at h
  cases hw : whatF (.mk 6 o n u l) with
  | msk x => rw [hw] at hin; exact ⟨o, n, u, x, by rw [show l = [x] from hin.2]⟩
  | nam => rw [hw] at hin; have h5 : (6 : Int) = 5 := hin; omega
  | none => rw [hw] at h; simp at h
  | num => rw [hw] at h; simp at h
  | pr a b => rw [hw] at h; simp at h
  | sg a => rw [hw] at h; simp at h
theorem cond_of_bool : ∀ (n : Nat) (e : Ex), e.size < n → boolF n e = true → condOk e
  | 0, e, h, _ => by omega
  | n + 1, .mk k o nm u l, hs, hb => by
    rw [boolF] at hb
    have hin := whatF_in (.mk k o nm u l)
    cases hw : whatF (.mk k o nm u l) with
    | pr a b =>
      rw [hw] at hb hin
      have hl : l = [a, b] := hin.2
      subst hl
      simp only [Ex.size, Ex.sizes] at hs
      simp only at hb
      split at hb
      · rename_i h12
        have h12 : k = 1 ∨ k = 2 := h12
        rw [Bool.and_eq_true] at hb
        have ga := cond_of_bool n a (by omega) hb.1
        have gb := cond_of_bool n b (by omega) hb.2
        exact ⟨fun h4 => by omega, .inr ⟨by omega, ga, gb, trivial⟩⟩
      · split at hb
        · rename_i h4
          have h4 : k = 4 := h4
          subst h4
          simp only [Bool.and_eq_true] at hb
          exact ⟨fun _ => ⟨o, nm, u, a, b, rfl, comp_out hb.2.1⟩, .inl rfl⟩
        · cases hb
    | sg a =>
      rw [hw] at hb hin
      have hl : l = [a] := hin.2
      have h3 : k = 3 := hin.1
      subst hl
      subst h3
      simp only [Ex.size, Ex.sizes] at hs
      simp only at hb
      have ga := cond_of_bool n a (by omega) hb
      exact ⟨fun h4 => by omega, .inr ⟨by omega, ga, trivial⟩⟩
    | none => rw [hw] at hb; cases hb
    | num => rw [hw] at hb; cases hb
    | nam => rw [hw] at hb; cases hb
    | msk x => rw [hw] at hb; cases hb
end Go.Proofs.YtjjhckmnnaafkaaDoor
