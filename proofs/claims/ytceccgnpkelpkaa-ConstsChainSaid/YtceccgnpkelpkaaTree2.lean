/- A part of a proof: functions of the program, walked over the abstract machine. -/
import Derived.Test.YtceccgnpkelpkaaTree1
set_option linter.unusedVariables false
set_option linter.unusedSimpArgs false
namespace Go.Proofs.Ytceccgnpkelpkaa
open Go Go.Am Go.Proofs
attribute [local irreducible] W WL DL WO RoundEnd
set_option maxRecDepth 10000
set_option maxHeartbeats 4000000
/-- what an expression is -/
inductive Wh where
  | none | num | nam
  | msk (k : Ex)
  | pr (a b : Ex)
  | sg (k : Ex)
def Wh.d : Wh → D
  | .none => .sc .nilIface
  | .num => .ifc 122 true []
  | .nam => .ifc 123 true []
  | .msk k => .ifc 124 true k.row
  | .pr a b => .ifc 78 true (a.row ++ b.row)
  | .sg k => .ifc 82 true k.row
def twoF (k : Int) : Bool := k == 1 || (k == 2 || k == 8)
def whatF : Ex → Wh
  | .mk k o n u l => match l with
    | [] => if k == 7 && (o == ⟨#[]⟩ && n == ⟨#[]⟩) then .num else if k == 5 && (o == ⟨#[]⟩ && u == 0) then .nam else .none
    | [x] => if k == 6 && (o == ⟨#[]⟩ && u == 0) then .msk x else if k == 3 && ((o == ⟨#[]⟩ && u == 0) && n == ⟨#[]⟩) then .sg x else .none
    | [x, y] => if k == 4 && (n == ⟨#[]⟩ && u == 0) then .pr x y else if twoF k && ((o == ⟨#[]⟩ && u == 0) && n == ⟨#[]⟩) then .pr x y else .none
    | _ => .none
theorem twoR (e : Ex) : Comp Try.prog 58 [.agg (e.row.map .d)] (bool (twoF e.kind)) := by
  obtain ⟨k, o, n, u, l⟩ := e
  refine Spec.body (C := cx [] 16) fits (fn := Try.f58) Try.func58 rfl (by decide) (by decide) (gI ?_)
  repeat' (first | ((first | refine C_r ?_ | refine C0_r ?_ | refine O_r ?_ | refine R_r ?_); (conv => whnf); first | (refine ⟨fun hb => ?_, fun hb => ?_⟩ <;> try exact no_way) | refine A_o ?_ | refine B_o ?_ | refine C_o ?_ | refine R_o ?_ | refine fR ?_ | refine fRk ?_ | refine F_o ?_) | refine SA_l ?_ | refine L_l ?_ | refine Q_l ?_ | refine X_l ?_ | refine Xa_l ?_ | refine Xs_l ?_ | refine K_l ?_ | refine Ka_l ?_ | refine Lk_l ?_ | refine Up_l ?_ | refine Del_l ?_ | refine St_l ?_ | refine LU_l ?_ | refine Xw_l ?_ | refine Le_l ?_ | refine Se_l ?_ | refine M_l ?_ | refine A_l ?_ | refine A0_l ?_ | refine A1_l ?_ | refine Mk_l ?_ | refine V_l ?_ | refine Kz_l ?_ | refine W_l ?_ | fail)
  all_goals (refine ⟨?_, rfl⟩; refine congrArg Am.bool ?_; simp_all [twoF, Ex.kind])
theorem what7 (l : List Ex) (o n : ByteArray) (u : Int) : Comp Try.prog 32 [.agg [.d (.sc (.int .i64 7)), .d (.sc (.string o)), .d (.sc (.string n)), .d (.sc (.int .u64 u)), .d (.list ((l).map Ex.row))]] (.one (.d (whatF (.mk (7) o n u (l))).d)) := by
  have c1 := twoR (.mk (7) o n u (l))
  have e2 : twoF (7) = false := rfl
  rw [show (Ex.mk (7) o n u (l)).kind = (7) from rfl, e2] at c1
  have el : Ex.rows (l) = (l).map Ex.row := Ex.rows_eq _
  simp only [Ex.row, el, List.map_cons, List.map_nil] at c1
  refine Spec.body (C := cx [] 149) fits (fn := Try.f32) Try.func32 rfl (by decide) (by decide) (gI ?_)
  repeat' (first | ((first | refine C_r ?_ | refine C0_r ?_ | refine O_r ?_ | refine R_r ?_); (conv => whnf); first | (refine ⟨fun hb => ?_, fun hb => ?_⟩ <;> try exact no_way) | refine A_o ?_ | refine B_o ?_ | refine C_o ?_ | refine R_o ?_ | refine fR ?_ | refine fRk ?_ | refine F_o ?_) | refine C_l (c1) ?_ | refine SA_l ?_ | refine L_l ?_ | refine Q_l ?_ | refine X_l ?_ | refine Xa_l ?_ | refine Xs_l ?_ | refine K_l ?_ | refine Ka_l ?_ | refine Lk_l ?_ | refine Up_l ?_ | refine Del_l ?_ | refine St_l ?_ | refine LU_l ?_ | refine Xw_l ?_ | refine Le_l ?_ | refine Se_l ?_ | refine M_l ?_ | refine A_l ?_ | refine A0_l ?_ | refine A1_l ?_ | refine Mk_l ?_ | refine V_l ?_ | refine Kz_l ?_ | refine W_l ?_ | refine C_d (c1) ?_ | refine SA_d ?_ | refine L_d ?_ | refine Q_d ?_ | refine X_d ?_ | refine Xs_d ?_ | refine K_d ?_ | refine Ka_d ?_ | refine Lk_d ?_ | refine Up_d ?_ | refine A_d ?_ | refine A0_d ?_ | refine St_d ?_ | refine LU_d ?_ | refine Xw_d ?_ | refine Le_d ?_ | refine Se_d ?_ | refine M_d ?_ | refine N_d ?_ | refine V_d ?_ | refine Kz_d ?_ | refine W_d ?_ | fail)
  all_goals (refine ⟨?_, rfl⟩; clear c1 el)
  all_goals first | (have e : whatF (.mk (7) o n u (l)) = .none := (by first | (simp_all [whatF, twoF]; done) | (rcases l with _ | ⟨x, _ | ⟨y, _ | ⟨z, l⟩⟩⟩ <;> simp_all [whatF, twoF])); rw [e]; rfl) | (have e : whatF (.mk (7) o n u (l)) = .num := (by first | (simp_all [whatF, twoF]; done) | (rcases l with _ | ⟨x, _ | ⟨y, _ | ⟨z, l⟩⟩⟩ <;> simp_all [whatF, twoF])); rw [e]; rfl) | trace_state
theorem what5 (l : List Ex) (o n : ByteArray) (u : Int) : Comp Try.prog 32 [.agg [.d (.sc (.int .i64 5)), .d (.sc (.string o)), .d (.sc (.string n)), .d (.sc (.int .u64 u)), .d (.list ((l).map Ex.row))]] (.one (.d (whatF (.mk (5) o n u (l))).d)) := by
  have c1 := twoR (.mk (5) o n u (l))
  have e2 : twoF (5) = false := rfl
  rw [show (Ex.mk (5) o n u (l)).kind = (5) from rfl, e2] at c1
  have el : Ex.rows (l) = (l).map Ex.row := Ex.rows_eq _
  simp only [Ex.row, el, List.map_cons, List.map_nil] at c1
  refine Spec.body (C := cx [] 149) fits (fn := Try.f32) Try.func32 rfl (by decide) (by decide) (gI ?_)
  repeat' (first | ((first | refine C_r ?_ | refine C0_r ?_ | refine O_r ?_ | refine R_r ?_); (conv => whnf); first | (refine ⟨fun hb => ?_, fun hb => ?_⟩ <;> try exact no_way) | refine A_o ?_ | refine B_o ?_ | refine C_o ?_ | refine R_o ?_ | refine fR ?_ | refine fRk ?_ | refine F_o ?_) | refine C_l (c1) ?_ | refine SA_l ?_ | refine L_l ?_ | refine Q_l ?_ | refine X_l ?_ | refine Xa_l ?_ | refine Xs_l ?_ | refine K_l ?_ | refine Ka_l ?_ | refine Lk_l ?_ | refine Up_l ?_ | refine Del_l ?_ | refine St_l ?_ | refine LU_l ?_ | refine Xw_l ?_ | refine Le_l ?_ | refine Se_l ?_ | refine M_l ?_ | refine A_l ?_ | refine A0_l ?_ | refine A1_l ?_ | refine Mk_l ?_ | refine V_l ?_ | refine Kz_l ?_ | refine W_l ?_ | refine C_d (c1) ?_ | refine SA_d ?_ | refine L_d ?_ | refine Q_d ?_ | refine X_d ?_ | refine Xs_d ?_ | refine K_d ?_ | refine Ka_d ?_ | refine Lk_d ?_ | refine Up_d ?_ | refine A_d ?_ | refine A0_d ?_ | refine St_d ?_ | refine LU_d ?_ | refine Xw_d ?_ | refine Le_d ?_ | refine Se_d ?_ | refine M_d ?_ | refine N_d ?_ | refine V_d ?_ | refine Kz_d ?_ | refine W_d ?_ | fail)
  all_goals (refine ⟨?_, rfl⟩; clear c1 el)
  all_goals first | (have e : whatF (.mk (5) o n u (l)) = .none := (by first | (simp_all [whatF, twoF]; done) | (rcases l with _ | ⟨x, _ | ⟨y, _ | ⟨z, l⟩⟩⟩ <;> simp_all [whatF, twoF])); rw [e]; rfl) | (have e : whatF (.mk (5) o n u (l)) = .nam := (by first | (simp_all [whatF, twoF]; done) | (rcases l with _ | ⟨x, _ | ⟨y, _ | ⟨z, l⟩⟩⟩ <;> simp_all [whatF, twoF])); rw [e]; rfl) | trace_state
theorem what6 (k1 : Int) (o1 n1 : ByteArray) (u1 : Int) (l1 : List Ex) (o n : ByteArray) (u : Int) : Comp Try.prog 32 [.agg [.d (.sc (.int .i64 6)), .d (.sc (.string o)), .d (.sc (.string n)), .d (.sc (.int .u64 u)), .d (.list (([Ex.mk k1 o1 n1 u1 l1]).map Ex.row))]] (.one (.d (whatF (.mk (6) o n u ([Ex.mk k1 o1 n1 u1 l1]))).d)) := by
  have c1 := twoR (.mk (6) o n u ([Ex.mk k1 o1 n1 u1 l1]))
  have e2 : twoF (6) = false := rfl
  rw [show (Ex.mk (6) o n u ([Ex.mk k1 o1 n1 u1 l1])).kind = (6) from rfl, e2] at c1
  have el : Ex.rows ([Ex.mk k1 o1 n1 u1 l1]) = ([Ex.mk k1 o1 n1 u1 l1]).map Ex.row := Ex.rows_eq _
  simp only [Ex.row, el, List.map_cons, List.map_nil] at c1
  refine Spec.body (C := cx [] 149) fits (fn := Try.f32) Try.func32 rfl (by decide) (by decide) (gI ?_)
  repeat' (first | ((first | refine C_r ?_ | refine C0_r ?_ | refine O_r ?_ | refine R_r ?_); (conv => whnf); first | (refine ⟨fun hb => ?_, fun hb => ?_⟩ <;> try exact no_way) | refine A_o ?_ | refine B_o ?_ | refine C_o ?_ | refine R_o ?_ | refine fR ?_ | refine fRk ?_ | refine F_o ?_) | refine C_l (c1) ?_ | refine SA_l ?_ | refine L_l ?_ | refine Q_l ?_ | refine X_l ?_ | refine Xa_l ?_ | refine Xs_l ?_ | refine K_l ?_ | refine Ka_l ?_ | refine Lk_l ?_ | refine Up_l ?_ | refine Del_l ?_ | refine St_l ?_ | refine LU_l ?_ | refine Xw_l ?_ | refine Le_l ?_ | refine Se_l ?_ | refine M_l ?_ | refine A_l ?_ | refine A0_l ?_ | refine A1_l ?_ | refine Mk_l ?_ | refine V_l ?_ | refine Kz_l ?_ | refine W_l ?_ | refine C_d (c1) ?_ | refine SA_d ?_ | refine L_d ?_ | refine Q_d ?_ | refine X_d ?_ | refine Xs_d ?_ | refine K_d ?_ | refine Ka_d ?_ | refine Lk_d ?_ | refine Up_d ?_ | refine A_d ?_ | refine A0_d ?_ | refine St_d ?_ | refine LU_d ?_ | refine Xw_d ?_ | refine Le_d ?_ | refine Se_d ?_ | refine M_d ?_ | refine N_d ?_ | refine V_d ?_ | refine Kz_d ?_ | refine W_d ?_ | fail)
  all_goals (refine ⟨?_, rfl⟩; clear c1 el)
  all_goals first | (have e : whatF (.mk (6) o n u ([Ex.mk k1 o1 n1 u1 l1])) = .none := (by first | (simp_all [whatF, twoF]; done) | (rcases l with _ | ⟨x, _ | ⟨y, _ | ⟨z, l⟩⟩⟩ <;> simp_all [whatF, twoF])); rw [e]; rfl) | (have e : whatF (.mk (6) o n u ([Ex.mk k1 o1 n1 u1 l1])) = .msk (Ex.mk k1 o1 n1 u1 l1) := (by first | (simp_all [whatF, twoF]; done) | (rcases l with _ | ⟨x, _ | ⟨y, _ | ⟨z, l⟩⟩⟩ <;> simp_all [whatF, twoF])); rw [e]; rfl) | trace_state
theorem what6n (l : List Ex) (o n : ByteArray) (u : Int) (hl : ((l.map Ex.row).length == (1 : Int)) = false) : Comp Try.prog 32 [.agg [.d (.sc (.int .i64 6)), .d (.sc (.string o)), .d (.sc (.string n)), .d (.sc (.int .u64 u)), .d (.list ((l).map Ex.row))]] (.one (.d (whatF (.mk (6) o n u (l))).d)) := by
  have c1 := twoR (.mk (6) o n u (l))
  have e2 : twoF (6) = false := rfl
  rw [show (Ex.mk (6) o n u (l)).kind = (6) from rfl, e2] at c1
  have el : Ex.rows (l) = (l).map Ex.row := Ex.rows_eq _
  simp only [Ex.row, el, List.map_cons, List.map_nil] at c1
  refine Spec.body (C := cx [] 149) fits (fn := Try.f32) Try.func32 rfl (by decide) (by decide) (gI ?_)
  repeat' (first | ((first | refine C_r ?_ | refine C0_r ?_ | refine O_r ?_ | refine R_r ?_); (conv => whnf); first | (refine ⟨fun hb => ?_, fun hb => ?_⟩ <;> try exact no_way) | refine A_o ?_ | refine B_o ?_ | refine C_o ?_ | refine R_o ?_ | refine fR ?_ | refine fRk ?_ | refine F_o ?_) | refine C_l (c1) ?_ | refine SA_l ?_ | refine L_l ?_ | refine Q_l ?_ | refine X_l ?_ | refine Xa_l ?_ | refine Xs_l ?_ | refine K_l ?_ | refine Ka_l ?_ | refine Lk_l ?_ | refine Up_l ?_ | refine Del_l ?_ | refine St_l ?_ | refine LU_l ?_ | refine Xw_l ?_ | refine Le_l ?_ | refine Se_l ?_ | refine M_l ?_ | refine A_l ?_ | refine A0_l ?_ | refine A1_l ?_ | refine Mk_l ?_ | refine V_l ?_ | refine Kz_l ?_ | refine W_l ?_ | refine C_d (c1) ?_ | refine SA_d ?_ | refine L_d ?_ | refine Q_d ?_ | refine X_d ?_ | refine Xs_d ?_ | refine K_d ?_ | refine Ka_d ?_ | refine Lk_d ?_ | refine Up_d ?_ | refine A_d ?_ | refine A0_d ?_ | refine St_d ?_ | refine LU_d ?_ | refine Xw_d ?_ | refine Le_d ?_ | refine Se_d ?_ | refine M_d ?_ | refine N_d ?_ | refine V_d ?_ | refine Kz_d ?_ | refine W_d ?_ | fail)
  all_goals (refine ⟨?_, rfl⟩; clear c1 el)
  all_goals first | (have e : whatF (.mk (6) o n u (l)) = .none := (by first | (simp_all [whatF, twoF]; done) | (rcases l with _ | ⟨x, _ | ⟨y, _ | ⟨z, l⟩⟩⟩ <;> simp_all [whatF, twoF])); rw [e]; rfl) | trace_state
theorem what3 (k1 : Int) (o1 n1 : ByteArray) (u1 : Int) (l1 : List Ex) (o n : ByteArray) (u : Int) : Comp Try.prog 32 [.agg [.d (.sc (.int .i64 3)), .d (.sc (.string o)), .d (.sc (.string n)), .d (.sc (.int .u64 u)), .d (.list (([Ex.mk k1 o1 n1 u1 l1]).map Ex.row))]] (.one (.d (whatF (.mk (3) o n u ([Ex.mk k1 o1 n1 u1 l1]))).d)) := by
  have c1 := twoR (.mk (3) o n u ([Ex.mk k1 o1 n1 u1 l1]))
  have e2 : twoF (3) = false := rfl
  rw [show (Ex.mk (3) o n u ([Ex.mk k1 o1 n1 u1 l1])).kind = (3) from rfl, e2] at c1
  have el : Ex.rows ([Ex.mk k1 o1 n1 u1 l1]) = ([Ex.mk k1 o1 n1 u1 l1]).map Ex.row := Ex.rows_eq _
  simp only [Ex.row, el, List.map_cons, List.map_nil] at c1
  refine Spec.body (C := cx [] 149) fits (fn := Try.f32) Try.func32 rfl (by decide) (by decide) (gI ?_)
  repeat' (first | ((first | refine C_r ?_ | refine C0_r ?_ | refine O_r ?_ | refine R_r ?_); (conv => whnf); first | (refine ⟨fun hb => ?_, fun hb => ?_⟩ <;> try exact no_way) | refine A_o ?_ | refine B_o ?_ | refine C_o ?_ | refine R_o ?_ | refine fR ?_ | refine fRk ?_ | refine F_o ?_) | refine C_l (c1) ?_ | refine SA_l ?_ | refine L_l ?_ | refine Q_l ?_ | refine X_l ?_ | refine Xa_l ?_ | refine Xs_l ?_ | refine K_l ?_ | refine Ka_l ?_ | refine Lk_l ?_ | refine Up_l ?_ | refine Del_l ?_ | refine St_l ?_ | refine LU_l ?_ | refine Xw_l ?_ | refine Le_l ?_ | refine Se_l ?_ | refine M_l ?_ | refine A_l ?_ | refine A0_l ?_ | refine A1_l ?_ | refine Mk_l ?_ | refine V_l ?_ | refine Kz_l ?_ | refine W_l ?_ | refine C_d (c1) ?_ | refine SA_d ?_ | refine L_d ?_ | refine Q_d ?_ | refine X_d ?_ | refine Xs_d ?_ | refine K_d ?_ | refine Ka_d ?_ | refine Lk_d ?_ | refine Up_d ?_ | refine A_d ?_ | refine A0_d ?_ | refine St_d ?_ | refine LU_d ?_ | refine Xw_d ?_ | refine Le_d ?_ | refine Se_d ?_ | refine M_d ?_ | refine N_d ?_ | refine V_d ?_ | refine Kz_d ?_ | refine W_d ?_ | fail)
  all_goals (refine ⟨?_, rfl⟩; clear c1 el)
  all_goals first | (have e : whatF (.mk (3) o n u ([Ex.mk k1 o1 n1 u1 l1])) = .none := (by first | (simp_all [whatF, twoF]; done) | (rcases l with _ | ⟨x, _ | ⟨y, _ | ⟨z, l⟩⟩⟩ <;> simp_all [whatF, twoF])); rw [e]; rfl) | (have e : whatF (.mk (3) o n u ([Ex.mk k1 o1 n1 u1 l1])) = .sg (Ex.mk k1 o1 n1 u1 l1) := (by first | (simp_all [whatF, twoF]; done) | (rcases l with _ | ⟨x, _ | ⟨y, _ | ⟨z, l⟩⟩⟩ <;> simp_all [whatF, twoF])); rw [e]; rfl) | trace_state
theorem what3n (l : List Ex) (o n : ByteArray) (u : Int) (hl : ((l.map Ex.row).length == (1 : Int)) = false) : Comp Try.prog 32 [.agg [.d (.sc (.int .i64 3)), .d (.sc (.string o)), .d (.sc (.string n)), .d (.sc (.int .u64 u)), .d (.list ((l).map Ex.row))]] (.one (.d (whatF (.mk (3) o n u (l))).d)) := by
  have c1 := twoR (.mk (3) o n u (l))
  have e2 : twoF (3) = false := rfl
  rw [show (Ex.mk (3) o n u (l)).kind = (3) from rfl, e2] at c1
  have el : Ex.rows (l) = (l).map Ex.row := Ex.rows_eq _
  simp only [Ex.row, el, List.map_cons, List.map_nil] at c1
  refine Spec.body (C := cx [] 149) fits (fn := Try.f32) Try.func32 rfl (by decide) (by decide) (gI ?_)
  repeat' (first | ((first | refine C_r ?_ | refine C0_r ?_ | refine O_r ?_ | refine R_r ?_); (conv => whnf); first | (refine ⟨fun hb => ?_, fun hb => ?_⟩ <;> try exact no_way) | refine A_o ?_ | refine B_o ?_ | refine C_o ?_ | refine R_o ?_ | refine fR ?_ | refine fRk ?_ | refine F_o ?_) | refine C_l (c1) ?_ | refine SA_l ?_ | refine L_l ?_ | refine Q_l ?_ | refine X_l ?_ | refine Xa_l ?_ | refine Xs_l ?_ | refine K_l ?_ | refine Ka_l ?_ | refine Lk_l ?_ | refine Up_l ?_ | refine Del_l ?_ | refine St_l ?_ | refine LU_l ?_ | refine Xw_l ?_ | refine Le_l ?_ | refine Se_l ?_ | refine M_l ?_ | refine A_l ?_ | refine A0_l ?_ | refine A1_l ?_ | refine Mk_l ?_ | refine V_l ?_ | refine Kz_l ?_ | refine W_l ?_ | refine C_d (c1) ?_ | refine SA_d ?_ | refine L_d ?_ | refine Q_d ?_ | refine X_d ?_ | refine Xs_d ?_ | refine K_d ?_ | refine Ka_d ?_ | refine Lk_d ?_ | refine Up_d ?_ | refine A_d ?_ | refine A0_d ?_ | refine St_d ?_ | refine LU_d ?_ | refine Xw_d ?_ | refine Le_d ?_ | refine Se_d ?_ | refine M_d ?_ | refine N_d ?_ | refine V_d ?_ | refine Kz_d ?_ | refine W_d ?_ | fail)
  all_goals (refine ⟨?_, rfl⟩; clear c1 el)
  all_goals first | (have e : whatF (.mk (3) o n u (l)) = .none := (by first | (simp_all [whatF, twoF]; done) | (rcases l with _ | ⟨x, _ | ⟨y, _ | ⟨z, l⟩⟩⟩ <;> simp_all [whatF, twoF])); rw [e]; rfl) | trace_state
theorem what4 (k1 : Int) (o1 n1 : ByteArray) (u1 : Int) (l1 : List Ex) (k2 : Int) (o2 n2 : ByteArray) (u2 : Int) (l2 : List Ex) (o n : ByteArray) (u : Int) : Comp Try.prog 32 [.agg [.d (.sc (.int .i64 4)), .d (.sc (.string o)), .d (.sc (.string n)), .d (.sc (.int .u64 u)), .d (.list (([Ex.mk k1 o1 n1 u1 l1, Ex.mk k2 o2 n2 u2 l2]).map Ex.row))]] (.one (.d (whatF (.mk (4) o n u ([Ex.mk k1 o1 n1 u1 l1, Ex.mk k2 o2 n2 u2 l2]))).d)) := by
  have c1 := twoR (.mk (4) o n u ([Ex.mk k1 o1 n1 u1 l1, Ex.mk k2 o2 n2 u2 l2]))
  have e2 : twoF (4) = false := rfl
  rw [show (Ex.mk (4) o n u ([Ex.mk k1 o1 n1 u1 l1, Ex.mk k2 o2 n2 u2 l2])).kind = (4) from rfl, e2] at c1
  have el : Ex.rows ([Ex.mk k1 o1 n1 u1 l1, Ex.mk k2 o2 n2 u2 l2]) = ([Ex.mk k1 o1 n1 u1 l1, Ex.mk k2 o2 n2 u2 l2]).map Ex.row := Ex.rows_eq _
  simp only [Ex.row, el, List.map_cons, List.map_nil] at c1
  refine Spec.body (C := cx [] 149) fits (fn := Try.f32) Try.func32 rfl (by decide) (by decide) (gI ?_)
  repeat' (first | ((first | refine C_r ?_ | refine C0_r ?_ | refine O_r ?_ | refine R_r ?_); (conv => whnf); first | (refine ⟨fun hb => ?_, fun hb => ?_⟩ <;> try exact no_way) | refine A_o ?_ | refine B_o ?_ | refine C_o ?_ | refine R_o ?_ | refine fR ?_ | refine fRk ?_ | refine F_o ?_) | refine C_l (c1) ?_ | refine SA_l ?_ | refine L_l ?_ | refine Q_l ?_ | refine X_l ?_ | refine Xa_l ?_ | refine Xs_l ?_ | refine K_l ?_ | refine Ka_l ?_ | refine Lk_l ?_ | refine Up_l ?_ | refine Del_l ?_ | refine St_l ?_ | refine LU_l ?_ | refine Xw_l ?_ | refine Le_l ?_ | refine Se_l ?_ | refine M_l ?_ | refine A_l ?_ | refine A0_l ?_ | refine A1_l ?_ | refine Mk_l ?_ | refine V_l ?_ | refine Kz_l ?_ | refine W_l ?_ | refine C_d (c1) ?_ | refine SA_d ?_ | refine L_d ?_ | refine Q_d ?_ | refine X_d ?_ | refine Xs_d ?_ | refine K_d ?_ | refine Ka_d ?_ | refine Lk_d ?_ | refine Up_d ?_ | refine A_d ?_ | refine A0_d ?_ | refine St_d ?_ | refine LU_d ?_ | refine Xw_d ?_ | refine Le_d ?_ | refine Se_d ?_ | refine M_d ?_ | refine N_d ?_ | refine V_d ?_ | refine Kz_d ?_ | refine W_d ?_ | fail)
  all_goals (refine ⟨?_, rfl⟩; clear c1 el)
  all_goals first | (have e : whatF (.mk (4) o n u ([Ex.mk k1 o1 n1 u1 l1, Ex.mk k2 o2 n2 u2 l2])) = .none := (by first | (simp_all [whatF, twoF]; done) | (rcases l with _ | ⟨x, _ | ⟨y, _ | ⟨z, l⟩⟩⟩ <;> simp_all [whatF, twoF])); rw [e]; rfl) | (have e : whatF (.mk (4) o n u ([Ex.mk k1 o1 n1 u1 l1, Ex.mk k2 o2 n2 u2 l2])) = .pr (Ex.mk k1 o1 n1 u1 l1) (Ex.mk k2 o2 n2 u2 l2) := (by first | (simp_all [whatF, twoF]; done) | (rcases l with _ | ⟨x, _ | ⟨y, _ | ⟨z, l⟩⟩⟩ <;> simp_all [whatF, twoF])); rw [e]; rfl) | trace_state
theorem what4n (l : List Ex) (o n : ByteArray) (u : Int) (hl : ((l.map Ex.row).length == (2 : Int)) = false) : Comp Try.prog 32 [.agg [.d (.sc (.int .i64 4)), .d (.sc (.string o)), .d (.sc (.string n)), .d (.sc (.int .u64 u)), .d (.list ((l).map Ex.row))]] (.one (.d (whatF (.mk (4) o n u (l))).d)) := by
  have c1 := twoR (.mk (4) o n u (l))
  have e2 : twoF (4) = false := rfl
  rw [show (Ex.mk (4) o n u (l)).kind = (4) from rfl, e2] at c1
  have el : Ex.rows (l) = (l).map Ex.row := Ex.rows_eq _
  simp only [Ex.row, el, List.map_cons, List.map_nil] at c1
  refine Spec.body (C := cx [] 149) fits (fn := Try.f32) Try.func32 rfl (by decide) (by decide) (gI ?_)
  repeat' (first | ((first | refine C_r ?_ | refine C0_r ?_ | refine O_r ?_ | refine R_r ?_); (conv => whnf); first | (refine ⟨fun hb => ?_, fun hb => ?_⟩ <;> try exact no_way) | refine A_o ?_ | refine B_o ?_ | refine C_o ?_ | refine R_o ?_ | refine fR ?_ | refine fRk ?_ | refine F_o ?_) | refine C_l (c1) ?_ | refine SA_l ?_ | refine L_l ?_ | refine Q_l ?_ | refine X_l ?_ | refine Xa_l ?_ | refine Xs_l ?_ | refine K_l ?_ | refine Ka_l ?_ | refine Lk_l ?_ | refine Up_l ?_ | refine Del_l ?_ | refine St_l ?_ | refine LU_l ?_ | refine Xw_l ?_ | refine Le_l ?_ | refine Se_l ?_ | refine M_l ?_ | refine A_l ?_ | refine A0_l ?_ | refine A1_l ?_ | refine Mk_l ?_ | refine V_l ?_ | refine Kz_l ?_ | refine W_l ?_ | refine C_d (c1) ?_ | refine SA_d ?_ | refine L_d ?_ | refine Q_d ?_ | refine X_d ?_ | refine Xs_d ?_ | refine K_d ?_ | refine Ka_d ?_ | refine Lk_d ?_ | refine Up_d ?_ | refine A_d ?_ | refine A0_d ?_ | refine St_d ?_ | refine LU_d ?_ | refine Xw_d ?_ | refine Le_d ?_ | refine Se_d ?_ | refine M_d ?_ | refine N_d ?_ | refine V_d ?_ | refine Kz_d ?_ | refine W_d ?_ | fail)
  all_goals (refine ⟨?_, rfl⟩; clear c1 el)
  all_goals first | (have e : whatF (.mk (4) o n u (l)) = .none := (by first | (simp_all [whatF, twoF]; done) | (rcases l with _ | ⟨x, _ | ⟨y, _ | ⟨z, l⟩⟩⟩ <;> simp_all [whatF, twoF])); rw [e]; rfl) | trace_state
theorem whatT (kd : Int) (k1 : Int) (o1 n1 : ByteArray) (u1 : Int) (l1 : List Ex) (k2 : Int) (o2 n2 : ByteArray) (u2 : Int) (l2 : List Ex) (o n : ByteArray) (u : Int) (k7 : (kd == 7) = false) (k5 : (kd == 5) = false) (k6 : (kd == 6) = false) (k3 : (kd == 3) = false) (k4 : (kd == 4) = false) (ht : twoF kd = true) : Comp Try.prog 32 [.agg [.d (.sc (.int .i64 kd)), .d (.sc (.string o)), .d (.sc (.string n)), .d (.sc (.int .u64 u)), .d (.list (([Ex.mk k1 o1 n1 u1 l1, Ex.mk k2 o2 n2 u2 l2]).map Ex.row))]] (.one (.d (whatF (.mk (kd) o n u ([Ex.mk k1 o1 n1 u1 l1, Ex.mk k2 o2 n2 u2 l2]))).d)) := by
  have c1 := twoR (.mk (kd) o n u ([Ex.mk k1 o1 n1 u1 l1, Ex.mk k2 o2 n2 u2 l2]))
  have e2 : twoF (kd) = true := ht
  rw [show (Ex.mk (kd) o n u ([Ex.mk k1 o1 n1 u1 l1, Ex.mk k2 o2 n2 u2 l2])).kind = (kd) from rfl, e2] at c1
  have el : Ex.rows ([Ex.mk k1 o1 n1 u1 l1, Ex.mk k2 o2 n2 u2 l2]) = ([Ex.mk k1 o1 n1 u1 l1, Ex.mk k2 o2 n2 u2 l2]).map Ex.row := Ex.rows_eq _
  simp only [Ex.row, el, List.map_cons, List.map_nil] at c1
  refine Spec.body (C := cx [] 149) fits (fn := Try.f32) Try.func32 rfl (by decide) (by decide) (gI ?_)
  repeat' (first | ((first | refine C_r ?_ | refine C0_r ?_ | refine O_r ?_ | refine R_r ?_); (conv => whnf); first | (refine ⟨fun hb => ?_, fun hb => ?_⟩ <;> try exact no_way) | refine A_o ?_ | refine B_o ?_ | refine C_o ?_ | refine R_o ?_ | refine fR ?_ | refine fRk ?_ | refine F_o ?_) | refine C_l (c1) ?_ | refine SA_l ?_ | refine L_l ?_ | refine Q_l ?_ | refine X_l ?_ | refine Xa_l ?_ | refine Xs_l ?_ | refine K_l ?_ | refine Ka_l ?_ | refine Lk_l ?_ | refine Up_l ?_ | refine Del_l ?_ | refine St_l ?_ | refine LU_l ?_ | refine Xw_l ?_ | refine Le_l ?_ | refine Se_l ?_ | refine M_l ?_ | refine A_l ?_ | refine A0_l ?_ | refine A1_l ?_ | refine Mk_l ?_ | refine V_l ?_ | refine Kz_l ?_ | refine W_l ?_ | refine C_d (c1) ?_ | refine SA_d ?_ | refine L_d ?_ | refine Q_d ?_ | refine X_d ?_ | refine Xs_d ?_ | refine K_d ?_ | refine Ka_d ?_ | refine Lk_d ?_ | refine Up_d ?_ | refine A_d ?_ | refine A0_d ?_ | refine St_d ?_ | refine LU_d ?_ | refine Xw_d ?_ | refine Le_d ?_ | refine Se_d ?_ | refine M_d ?_ | refine N_d ?_ | refine V_d ?_ | refine Kz_d ?_ | refine W_d ?_ | fail)
  all_goals (refine ⟨?_, rfl⟩; clear c1 el)
  all_goals first | (have e : whatF (.mk (kd) o n u ([Ex.mk k1 o1 n1 u1 l1, Ex.mk k2 o2 n2 u2 l2])) = .none := (by first | (simp_all [whatF, twoF]; done) | (rcases l with _ | ⟨x, _ | ⟨y, _ | ⟨z, l⟩⟩⟩ <;> simp_all [whatF, twoF])); rw [e]; rfl) | (have e : whatF (.mk (kd) o n u ([Ex.mk k1 o1 n1 u1 l1, Ex.mk k2 o2 n2 u2 l2])) = .pr (Ex.mk k1 o1 n1 u1 l1) (Ex.mk k2 o2 n2 u2 l2) := (by first | (simp_all [whatF, twoF]; done) | (rcases l with _ | ⟨x, _ | ⟨y, _ | ⟨z, l⟩⟩⟩ <;> simp_all [whatF, twoF])); rw [e]; rfl) | trace_state
theorem whatTn (kd : Int) (l : List Ex) (o n : ByteArray) (u : Int) (k7 : (kd == 7) = false) (k5 : (kd == 5) = false) (k6 : (kd == 6) = false) (k3 : (kd == 3) = false) (k4 : (kd == 4) = false) (ht : twoF kd = true) (hl : ((l.map Ex.row).length == (2 : Int)) = false) : Comp Try.prog 32 [.agg [.d (.sc (.int .i64 kd)), .d (.sc (.string o)), .d (.sc (.string n)), .d (.sc (.int .u64 u)), .d (.list ((l).map Ex.row))]] (.one (.d (whatF (.mk (kd) o n u (l))).d)) := by
  have c1 := twoR (.mk (kd) o n u (l))
  have e2 : twoF (kd) = true := ht
  rw [show (Ex.mk (kd) o n u (l)).kind = (kd) from rfl, e2] at c1
  have el : Ex.rows (l) = (l).map Ex.row := Ex.rows_eq _
  simp only [Ex.row, el, List.map_cons, List.map_nil] at c1
  refine Spec.body (C := cx [] 149) fits (fn := Try.f32) Try.func32 rfl (by decide) (by decide) (gI ?_)
  repeat' (first | ((first | refine C_r ?_ | refine C0_r ?_ | refine O_r ?_ | refine R_r ?_); (conv => whnf); first | (refine ⟨fun hb => ?_, fun hb => ?_⟩ <;> try exact no_way) | refine A_o ?_ | refine B_o ?_ | refine C_o ?_ | refine R_o ?_ | refine fR ?_ | refine fRk ?_ | refine F_o ?_) | refine C_l (c1) ?_ | refine SA_l ?_ | refine L_l ?_ | refine Q_l ?_ | refine X_l ?_ | refine Xa_l ?_ | refine Xs_l ?_ | refine K_l ?_ | refine Ka_l ?_ | refine Lk_l ?_ | refine Up_l ?_ | refine Del_l ?_ | refine St_l ?_ | refine LU_l ?_ | refine Xw_l ?_ | refine Le_l ?_ | refine Se_l ?_ | refine M_l ?_ | refine A_l ?_ | refine A0_l ?_ | refine A1_l ?_ | refine Mk_l ?_ | refine V_l ?_ | refine Kz_l ?_ | refine W_l ?_ | refine C_d (c1) ?_ | refine SA_d ?_ | refine L_d ?_ | refine Q_d ?_ | refine X_d ?_ | refine Xs_d ?_ | refine K_d ?_ | refine Ka_d ?_ | refine Lk_d ?_ | refine Up_d ?_ | refine A_d ?_ | refine A0_d ?_ | refine St_d ?_ | refine LU_d ?_ | refine Xw_d ?_ | refine Le_d ?_ | refine Se_d ?_ | refine M_d ?_ | refine N_d ?_ | refine V_d ?_ | refine Kz_d ?_ | refine W_d ?_ | fail)
  all_goals (refine ⟨?_, rfl⟩; clear c1 el)
  all_goals first | (have e : whatF (.mk (kd) o n u (l)) = .none := (by first | (simp_all [whatF, twoF]; done) | (rcases l with _ | ⟨x, _ | ⟨y, _ | ⟨z, l⟩⟩⟩ <;> simp_all [whatF, twoF])); rw [e]; rfl) | trace_state
theorem whatO (kd : Int) (l : List Ex) (o n : ByteArray) (u : Int) (k7 : (kd == 7) = false) (k5 : (kd == 5) = false) (k6 : (kd == 6) = false) (k3 : (kd == 3) = false) (k4 : (kd == 4) = false) (ht : twoF kd = false) : Comp Try.prog 32 [.agg [.d (.sc (.int .i64 kd)), .d (.sc (.string o)), .d (.sc (.string n)), .d (.sc (.int .u64 u)), .d (.list ((l).map Ex.row))]] (.one (.d (whatF (.mk (kd) o n u (l))).d)) := by
  have c1 := twoR (.mk (kd) o n u (l))
  have e2 : twoF (kd) = false := ht
  rw [show (Ex.mk (kd) o n u (l)).kind = (kd) from rfl, e2] at c1
  have el : Ex.rows (l) = (l).map Ex.row := Ex.rows_eq _
  simp only [Ex.row, el, List.map_cons, List.map_nil] at c1
  refine Spec.body (C := cx [] 149) fits (fn := Try.f32) Try.func32 rfl (by decide) (by decide) (gI ?_)
  repeat' (first | ((first | refine C_r ?_ | refine C0_r ?_ | refine O_r ?_ | refine R_r ?_); (conv => whnf); first | (refine ⟨fun hb => ?_, fun hb => ?_⟩ <;> try exact no_way) | refine A_o ?_ | refine B_o ?_ | refine C_o ?_ | refine R_o ?_ | refine fR ?_ | refine fRk ?_ | refine F_o ?_) | refine C_l (c1) ?_ | refine SA_l ?_ | refine L_l ?_ | refine Q_l ?_ | refine X_l ?_ | refine Xa_l ?_ | refine Xs_l ?_ | refine K_l ?_ | refine Ka_l ?_ | refine Lk_l ?_ | refine Up_l ?_ | refine Del_l ?_ | refine St_l ?_ | refine LU_l ?_ | refine Xw_l ?_ | refine Le_l ?_ | refine Se_l ?_ | refine M_l ?_ | refine A_l ?_ | refine A0_l ?_ | refine A1_l ?_ | refine Mk_l ?_ | refine V_l ?_ | refine Kz_l ?_ | refine W_l ?_ | refine C_d (c1) ?_ | refine SA_d ?_ | refine L_d ?_ | refine Q_d ?_ | refine X_d ?_ | refine Xs_d ?_ | refine K_d ?_ | refine Ka_d ?_ | refine Lk_d ?_ | refine Up_d ?_ | refine A_d ?_ | refine A0_d ?_ | refine St_d ?_ | refine LU_d ?_ | refine Xw_d ?_ | refine Le_d ?_ | refine Se_d ?_ | refine M_d ?_ | refine N_d ?_ | refine V_d ?_ | refine Kz_d ?_ | refine W_d ?_ | fail)
  all_goals (refine ⟨?_, rfl⟩; clear c1 el)
  all_goals first | (have e : whatF (.mk (kd) o n u (l)) = .none := (by first | (simp_all [whatF, twoF]; done) | (rcases l with _ | ⟨x, _ | ⟨y, _ | ⟨z, l⟩⟩⟩ <;> simp_all [whatF, twoF])); rw [e]; rfl) | trace_state
theorem len_ne {l : List Ex} {n : Nat} (h : l.length ≠ n) : ((l.map Ex.row).length == (n : Int)) = false := by
  rw [List.length_map, Bool.eq_false_iff]
  intro hc
  rw [beq_iff_eq] at hc
  omega
theorem whatR (e : Ex) : Comp Try.prog 32 [.agg (e.row.map .d)] (.one (.d (whatF e).d)) := by
  obtain ⟨kd, o, n, u, l⟩ := e
  have el : Ex.rows l = l.map Ex.row := Ex.rows_eq l
  simp only [Ex.row, el, List.map_cons, List.map_nil]
  by_cases h7 : kd = 7
  · subst h7; exact what7 l o n u
  by_cases h5 : kd = 5
  · subst h5; exact what5 l o n u
  by_cases h6 : kd = 6
  · subst h6
    rcases l with _ | ⟨⟨k1, o1, n1, u1, l1⟩, _ | ⟨y, l⟩⟩
    · exact what6n [] o n u rfl
    · exact what6 k1 o1 n1 u1 l1 o n u
    · exact what6n _ o n u (len_ne (n := 1) (by simp))
  by_cases h3 : kd = 3
  · subst h3
    rcases l with _ | ⟨⟨k1, o1, n1, u1, l1⟩, _ | ⟨y, l⟩⟩
    · exact what3n [] o n u rfl
    · exact what3 k1 o1 n1 u1 l1 o n u
    · exact what3n _ o n u (len_ne (n := 1) (by simp))
  by_cases h4 : kd = 4
  · subst h4
    rcases l with _ | ⟨⟨k1, o1, n1, u1, l1⟩, _ | ⟨⟨k2, o2, n2, u2, l2⟩, _ | ⟨z, l⟩⟩⟩
    · exact what4n [] o n u rfl
    · exact what4n _ o n u (len_ne (n := 2) (by simp))
    · exact what4 k1 o1 n1 u1 l1 k2 o2 n2 u2 l2 o n u
    · exact what4n _ o n u (len_ne (n := 2) (by simp))
  have b7 : (kd == 7) = false := by simp [h7]
  have b5 : (kd == 5) = false := by simp [h5]
  have b6 : (kd == 6) = false := by simp [h6]
  have b3 : (kd == 3) = false := by simp [h3]
  have b4 : (kd == 4) = false := by simp [h4]
  cases ht : twoF kd with
  | true =>
    rcases l with _ | ⟨⟨k1, o1, n1, u1, l1⟩, _ | ⟨⟨k2, o2, n2, u2, l2⟩, _ | ⟨z, l⟩⟩⟩
    · exact whatTn kd [] o n u b7 b5 b6 b3 b4 ht rfl
    · exact whatTn kd _ o n u b7 b5 b6 b3 b4 ht (len_ne (n := 2) (by simp))
    · exact whatT kd k1 o1 n1 u1 l1 k2 o2 n2 u2 l2 o n u b7 b5 b6 b3 b4 ht
    · exact whatTn kd _ o n u b7 b5 b6 b3 b4 ht (len_ne (n := 2) (by simp))
  | false => exact whatO kd l o n u b7 b5 b6 b3 b4 ht
end Go.Proofs.Ytceccgnpkelpkaa
