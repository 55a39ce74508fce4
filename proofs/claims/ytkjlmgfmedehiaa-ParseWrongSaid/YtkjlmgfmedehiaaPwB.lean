/- What tipstafflaw12.read gives of some texts: run by the evaluator; a table for it. -/
import Derived.Test.YtkjlmgfmedehiaaHkA
set_option linter.unusedVariables false
set_option linter.unusedSimpArgs false
namespace Go.Proofs.Ytkjlmgfmedehiaa
open Go Go.Am Go.Proofs
set_option maxRecDepth 100000
def Pbx0 : ByteArray := ⟨⟨[85, 83, 69, 32, 112, 32, 68, 69, 70, 65, 85, 76, 84, 32, 69, 82, 82, 78, 79, 40, 54, 53, 53, 51, 53, 41]⟩⟩
def Pbv0 : V := (.tup [(.agg [(.d (.sc (.slice .none 0 0))), (.d (.sc (.slice .none 0 0))), (.d (.list [[(.sc (.string ⟨⟨[112]⟩⟩))]])), (.d (.sc (.int .i64 (.ofNat 4)))), (.d (.sc (.int .i64 (.ofNat 65535))))]), (.agg [(.d (.sc (.int .i64 (.ofNat 0)))), (.d (.sc (.int .i64 (.ofNat 0)))), (.d (.sc (.complex .f64 0 0)))])])
theorem Pbd0 [GVals] : Comp Try.prog 10 [.one (.d (.sc (.string Pbx0)))] Pbv0 := ev_val hkA_ok (d := 200) (by kernel_rfl)
def Pbx1 : ByteArray := ⟨⟨[85, 83, 69, 32, 112, 32, 68, 69, 70, 65, 85, 76, 84, 32, 69, 82, 82, 78, 79, 40, 54, 53, 53, 51, 54, 41]⟩⟩
def Pbv1 : V := (.tup [(.agg [(.d (.sc (.slice .none 0 0))), (.d (.sc (.slice .none 0 0))), (.d (.sc (.slice .none 0 0))), (.d (.sc (.int .i64 (.ofNat 0)))), (.d (.sc (.int .i64 (.ofNat 0))))]), (.agg [(.d (.sc (.int .i64 (.ofNat 3)))), (.d (.sc (.int .i64 (.ofNat 0)))), (.d (.sc (.complex .f64 4607182418800017408 4626604192193052672)))])])
theorem Pbd1 [GVals] : Comp Try.prog 10 [.one (.d (.sc (.string Pbx1)))] Pbv1 := ev_val hkA_ok (d := 200) (by kernel_rfl)
def Pbx2 : ByteArray := ⟨⟨[85, 83, 69, 32, 112, 32, 68, 69, 70, 65, 85, 76, 84, 32, 69, 82, 82, 78, 79]⟩⟩
def Pbv2 : V := (.tup [(.agg [(.d (.sc (.slice .none 0 0))), (.d (.sc (.slice .none 0 0))), (.d (.sc (.slice .none 0 0))), (.d (.sc (.int .i64 (.ofNat 0)))), (.d (.sc (.int .i64 (.ofNat 0))))]), (.agg [(.d (.sc (.int .i64 (.ofNat 3)))), (.d (.sc (.int .i64 (.ofNat 9)))), (.d (.sc (.complex .f64 4619567317775286272 4619567317775286272)))])])
theorem Pbd2 [GVals] : Comp Try.prog 10 [.one (.d (.sc (.string Pbx2)))] Pbv2 := ev_val hkA_ok (d := 200) (by kernel_rfl)
def Pbx3 : ByteArray := ⟨⟨[85, 83, 69, 32, 112, 32, 68, 69, 70, 65, 85, 76, 84, 32, 76, 79, 71, 40, 49, 41]⟩⟩
def Pbv3 : V := (.tup [(.agg [(.d (.sc (.slice .none 0 0))), (.d (.sc (.slice .none 0 0))), (.d (.sc (.slice .none 0 0))), (.d (.sc (.int .i64 (.ofNat 0)))), (.d (.sc (.int .i64 (.ofNat 0))))]), (.agg [(.d (.sc (.int .i64 (.ofNat 3)))), (.d (.sc (.int .i64 (.ofNat 0)))), (.d (.sc (.complex .f64 4607182418800017408 4625759767262920704)))])])
theorem Pbd3 [GVals] : Comp Try.prog 10 [.one (.d (.sc (.string Pbx3)))] Pbv3 := ev_val hkA_ok (d := 200) (by kernel_rfl)
def Pbx4 : ByteArray := ⟨⟨[35, 100, 101, 102, 105, 110, 101, 32, 65, 32, 49, 32, 124, 32, 66, 32, 85, 83, 69, 32, 112, 32, 68, 69, 70, 65, 85, 76, 84, 32, 76, 79, 71]⟩⟩
def Pbv4 : V := (.tup [(.agg [(.d (.list [[(.sc (.string ⟨⟨[65]⟩⟩)), (.sc (.int .i64 (.ofNat 8))), (.sc (.string ⟨⟨[]⟩⟩)), (.sc (.string ⟨⟨[]⟩⟩)), (.sc (.int .u64 (.ofNat 0))), (.list [[(.sc (.int .i64 (.ofNat 7))), (.sc (.string ⟨⟨[]⟩⟩)), (.sc (.string ⟨⟨[]⟩⟩)), (.sc (.int .u64 (.ofNat 1))), (.list [])], [(.sc (.int .i64 (.ofNat 5))), (.sc (.string ⟨⟨[]⟩⟩)), (.sc (.string ⟨⟨[66]⟩⟩)), (.sc (.int .u64 (.ofNat 0))), (.list [])]])]])), (.d (.list [])), (.d (.list [[(.sc (.string ⟨⟨[112]⟩⟩))]])), (.d (.sc (.int .i64 (.ofNat 6)))), (.d (.sc (.int .i64 (.ofNat 0))))]), (.agg [(.d (.sc (.int .i64 (.ofNat 0)))), (.d (.sc (.int .i64 (.ofNat 0)))), (.d (.sc (.complex .f64 0 0)))])])
theorem Pbd4 [GVals] : Comp Try.prog 10 [.one (.d (.sc (.string Pbx4)))] Pbv4 := ev_val hkA_ok (d := 200) (by kernel_rfl)
def Pbx5 : ByteArray := ⟨⟨[35, 100, 101, 102, 105, 110, 101, 32, 85, 83, 69, 32, 49]⟩⟩
def Pbv5 : V := (.tup [(.agg [(.d (.sc (.slice .none 0 0))), (.d (.sc (.slice .none 0 0))), (.d (.sc (.slice .none 0 0))), (.d (.sc (.int .i64 (.ofNat 0)))), (.d (.sc (.int .i64 (.ofNat 0))))]), (.agg [(.d (.sc (.int .i64 (.ofNat 3)))), (.d (.sc (.int .i64 (.ofNat 0)))), (.d (.sc (.complex .f64 4607182418800017408 4621256167635550208)))])])
theorem Pbd5 [GVals] : Comp Try.prog 10 [.one (.d (.sc (.string Pbx5)))] Pbv5 := ev_val hkA_ok (d := 200) (by kernel_rfl)
def Pbx6 : ByteArray := ⟨⟨[35, 100, 101, 102, 105, 110, 101, 32, 65]⟩⟩
def Pbv6 : V := (.tup [(.agg [(.d (.sc (.slice .none 0 0))), (.d (.sc (.slice .none 0 0))), (.d (.sc (.slice .none 0 0))), (.d (.sc (.int .i64 (.ofNat 0)))), (.d (.sc (.int .i64 (.ofNat 0))))]), (.agg [(.d (.sc (.int .i64 (.ofNat 3)))), (.d (.sc (.int .i64 (.ofNat 9)))), (.d (.sc (.complex .f64 4619567317775286272 4619567317775286272)))])])
theorem Pbd6 [GVals] : Comp Try.prog 10 [.one (.d (.sc (.string Pbx6)))] Pbv6 := ev_val hkA_ok (d := 200) (by kernel_rfl)
def Pbx7 : ByteArray := ⟨⟨[80, 79, 76, 73, 67, 89, 32, 112, 32, 123, 32, 65, 76, 76, 79, 87, 32, 123, 32, 114, 101, 97, 100, 40, 41, 32, 125, 32, 125, 32, 85, 83, 69, 32, 112, 32, 68, 69, 70, 65, 85, 76, 84, 32, 76, 79, 71]⟩⟩
def Pbv7 : V := (.tup [(.agg [(.d (.list [])), (.d (.list [[(.sc (.string ⟨⟨[112]⟩⟩)), (.list [[(.sc (.string ⟨⟨[]⟩⟩)), (.sc (.int .i64 (.ofNat 7))), (.sc (.int .i64 (.ofNat 0))), (.list [[(.sc (.string ⟨⟨[114, 101, 97, 100]⟩⟩)), (.list []), (.list [])]])]])]])), (.d (.list [[(.sc (.string ⟨⟨[112]⟩⟩))]])), (.d (.sc (.int .i64 (.ofNat 6)))), (.d (.sc (.int .i64 (.ofNat 0))))]), (.agg [(.d (.sc (.int .i64 (.ofNat 0)))), (.d (.sc (.int .i64 (.ofNat 0)))), (.d (.sc (.complex .f64 0 0)))])])
theorem Pbd7 [GVals] : Comp Try.prog 10 [.one (.d (.sc (.string Pbx7)))] Pbv7 := ev_val hkA_ok (d := 200) (by kernel_rfl)
def Pbx8 : ByteArray := ⟨⟨[80, 79, 76, 73, 67, 89, 32, 112, 32, 123, 32, 65, 76, 76, 79, 87, 32, 123, 32, 114, 101, 97, 100, 40, 97, 32, 98, 41, 32, 125, 32, 125, 32, 85, 83, 69, 32, 112, 32, 68, 69, 70, 65, 85, 76, 84, 32, 76, 79, 71]⟩⟩
def Pbv8 : V := (.tup [(.agg [(.d (.sc (.slice .none 0 0))), (.d (.sc (.slice .none 0 0))), (.d (.sc (.slice .none 0 0))), (.d (.sc (.int .i64 (.ofNat 0)))), (.d (.sc (.int .i64 (.ofNat 0))))]), (.agg [(.d (.sc (.int .i64 (.ofNat 3)))), (.d (.sc (.int .i64 (.ofNat 0)))), (.d (.sc (.complex .f64 4607182418800017408 4628293042053316608)))])])
theorem Pbd8 [GVals] : Comp Try.prog 10 [.one (.d (.sc (.string Pbx8)))] Pbv8 := ev_val hkA_ok (d := 200) (by kernel_rfl)
def Pbx9 : ByteArray := ⟨⟨[80, 79, 76, 73, 67, 89, 32, 112, 32, 123, 32, 65, 76, 76, 79, 87, 32, 123, 32, 114, 101, 97, 100, 32, 123, 32, 125, 32, 125, 32, 125, 32, 85, 83, 69, 32, 112, 32, 68, 69, 70, 65, 85, 76, 84, 32, 76, 79, 71]⟩⟩
def Pbv9 : V := (.tup [(.agg [(.d (.sc (.slice .none 0 0))), (.d (.sc (.slice .none 0 0))), (.d (.sc (.slice .none 0 0))), (.d (.sc (.int .i64 (.ofNat 0)))), (.d (.sc (.int .i64 (.ofNat 0))))]), (.agg [(.d (.sc (.int .i64 (.ofNat 3)))), (.d (.sc (.int .i64 (.ofNat 0)))), (.d (.sc (.complex .f64 4607182418800017408 4628293042053316608)))])])
theorem Pbd9 [GVals] : Comp Try.prog 10 [.one (.d (.sc (.string Pbx9)))] Pbv9 := ev_val hkA_ok (d := 200) (by kernel_rfl)
def Pbx10 : ByteArray := ⟨⟨[80, 79, 76, 73, 67, 89, 32, 112, 32, 123, 32, 65, 76, 76, 79, 87, 32, 123, 32, 114, 101, 97, 100, 32, 123, 32, 49, 32, 61, 61, 32, 97, 32, 125, 32, 125, 32, 125, 32, 85, 83, 69, 32, 112, 32, 68, 69, 70, 65, 85, 76, 84, 32, 76, 79, 71]⟩⟩
def Pbv10 : V := (.tup [(.agg [(.d (.sc (.slice .none 0 0))), (.d (.sc (.slice .none 0 0))), (.d (.sc (.slice .none 0 0))), (.d (.sc (.int .i64 (.ofNat 0)))), (.d (.sc (.int .i64 (.ofNat 0))))]), (.agg [(.d (.sc (.int .i64 (.ofNat 3)))), (.d (.sc (.int .i64 (.ofNat 0)))), (.d (.sc (.complex .f64 4607182418800017408 4628293042053316608)))])])
theorem Pbd10 [GVals] : Comp Try.prog 10 [.one (.d (.sc (.string Pbx10)))] Pbv10 := ev_val hkA_ok (d := 200) (by kernel_rfl)
def Pbx11 : ByteArray := ⟨⟨[80, 79, 76, 73, 67, 89, 32, 112, 32, 123, 32, 65, 76, 76, 79, 87, 32, 123, 32, 114, 101, 97, 100, 32, 123, 32, 97, 32, 38, 32, 49, 32, 124, 32, 50, 32, 61, 61, 32, 51, 32, 125, 32, 125, 32, 125, 32, 85, 83, 69, 32, 112, 32, 68, 69, 70, 65, 85, 76, 84, 32, 76, 79, 71]⟩⟩
def Pbv11 : V := (.tup [(.agg [(.d (.sc (.slice .none 0 0))), (.d (.sc (.slice .none 0 0))), (.d (.sc (.slice .none 0 0))), (.d (.sc (.int .i64 (.ofNat 0)))), (.d (.sc (.int .i64 (.ofNat 0))))]), (.agg [(.d (.sc (.int .i64 (.ofNat 3)))), (.d (.sc (.int .i64 (.ofNat 0)))), (.d (.sc (.complex .f64 4607182418800017408 4629841154425225216)))])])
theorem Pbd11 [GVals] : Comp Try.prog 10 [.one (.d (.sc (.string Pbx11)))] Pbv11 := ev_val hkA_ok (d := 200) (by kernel_rfl)
def Pbx12 : ByteArray := ⟨⟨[120]⟩⟩
def Pbv12 : V := (.tup [(.agg [(.d (.sc (.slice .none 0 0))), (.d (.sc (.slice .none 0 0))), (.d (.sc (.slice .none 0 0))), (.d (.sc (.int .i64 (.ofNat 0)))), (.d (.sc (.int .i64 (.ofNat 0))))]), (.agg [(.d (.sc (.int .i64 (.ofNat 3)))), (.d (.sc (.int .i64 (.ofNat 0)))), (.d (.sc (.complex .f64 4607182418800017408 4607182418800017408)))])])
theorem Pbd12 [GVals] : Comp Try.prog 10 [.one (.d (.sc (.string Pbx12)))] Pbv12 := ev_val hkA_ok (d := 200) (by kernel_rfl)
def PbFind (s : ByteArray) : List (ByteArray × V) → Option V
  | [] => none
  | (t, v) :: r => match eqBytes t s with
    | true => some v
    | false => PbFind s r
theorem PbBytes {a b : ByteArray} (h : eqBytes a b = true) : a = b := by
  simp only [eqBytes, decide_eq_true_eq] at h
  obtain ⟨⟨a⟩⟩ := a; obtain ⟨⟨b⟩⟩ := b
  simp only at h; rw [h]
theorem PbFind_ok [GVals] {s : ByteArray} : ∀ {l : List (ByteArray × V)} {v : V}, (∀ p ∈ l, Comp Try.prog 10 [.one (.d (.sc (.string p.1)))] p.2) → PbFind s l = some v → Comp Try.prog 10 [.one (.d (.sc (.string s)))] v
  | [], v, _, h => by simp [PbFind] at h
  | (t, u) :: r, v, hl, h => by
    simp only [PbFind] at h
    split at h
    · rename_i he
      injection h with h; subst h
      have := hl (t, u) (by simp)
      rw [← PbBytes he]; exact this
    · exact PbFind_ok (fun p hp => hl p (by simp [hp])) h
def PbTab : List (ByteArray × V) := [(Pbx0, Pbv0), (Pbx1, Pbv1), (Pbx2, Pbv2), (Pbx3, Pbv3), (Pbx4, Pbv4), (Pbx5, Pbv5), (Pbx6, Pbv6), (Pbx7, Pbv7), (Pbx8, Pbv8), (Pbx9, Pbv9), (Pbx10, Pbv10), (Pbx11, Pbv11), (Pbx12, Pbv12)]
theorem PbTab_ok [GVals] : ∀ p ∈ PbTab, Comp Try.prog 10 [.one (.d (.sc (.string p.1)))] p.2 := by
  unfold PbTab
  refine List.forall_mem_cons.2 ⟨Pbd0, ?_⟩
  refine List.forall_mem_cons.2 ⟨Pbd1, ?_⟩
  refine List.forall_mem_cons.2 ⟨Pbd2, ?_⟩
  refine List.forall_mem_cons.2 ⟨Pbd3, ?_⟩
  refine List.forall_mem_cons.2 ⟨Pbd4, ?_⟩
  refine List.forall_mem_cons.2 ⟨Pbd5, ?_⟩
  refine List.forall_mem_cons.2 ⟨Pbd6, ?_⟩
  refine List.forall_mem_cons.2 ⟨Pbd7, ?_⟩
  refine List.forall_mem_cons.2 ⟨Pbd8, ?_⟩
  refine List.forall_mem_cons.2 ⟨Pbd9, ?_⟩
  refine List.forall_mem_cons.2 ⟨Pbd10, ?_⟩
  refine List.forall_mem_cons.2 ⟨Pbd11, ?_⟩
  refine List.forall_mem_cons.2 ⟨Pbd12, ?_⟩
  intro p hp; cases hp
def PbG : List V → Option V
  | [.one (.d (.sc (.string s)))] => PbFind s PbTab
  | _ => none
theorem PbG_ok [GVals] : ∀ vs r, PbG vs = some r → Comp Try.prog 10 vs r := by
  intro vs r h
  unfold PbG at h
  split at h
  · exact PbFind_ok PbTab_ok h
  · simp at h
def hkPb : Hook := hkOr (hk1 10 PbG) hkA
theorem hkPb_ok [GVals] : HookOk Try.prog hkPb := hkOr_ok (hk1_ok PbG_ok) hkA_ok
end Go.Proofs.Ytkjlmgfmedehiaa
