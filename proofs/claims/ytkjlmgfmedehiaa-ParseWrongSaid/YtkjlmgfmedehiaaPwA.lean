/- What tipstafflaw12.read gives of some texts: run by the evaluator; a table for it. -/
import Derived.Test.YtkjlmgfmedehiaaHkA
set_option linter.unusedVariables false
set_option linter.unusedSimpArgs false
namespace Go.Proofs.Ytkjlmgfmedehiaa
open Go Go.Am Go.Proofs
set_option maxRecDepth 100000
def Pax0 : ByteArray := ⟨⟨[]⟩⟩
def Pav0 : V := (.tup [(.agg [(.d (.sc (.slice .none 0 0))), (.d (.sc (.slice .none 0 0))), (.d (.sc (.slice .none 0 0))), (.d (.sc (.int .i64 (.ofNat 0)))), (.d (.sc (.int .i64 (.ofNat 0))))]), (.agg [(.d (.sc (.int .i64 (.ofNat 11)))), (.d (.sc (.int .i64 (.ofNat 9)))), (.d (.sc (.complex .f64 4619567317775286272 4619567317775286272)))])])
theorem Pad0 [GVals] : Comp Try.prog 10 [.one (.d (.sc (.string Pax0)))] Pav0 := ev_val hkA_ok (d := 200) (by kernel_rfl)
def Pax1 : ByteArray := ⟨⟨[85, 83, 69, 32, 112, 32, 68, 69, 70, 65, 85, 76, 84, 32, 75, 73, 76, 76]⟩⟩
def Pav1 : V := (.tup [(.agg [(.d (.sc (.slice .none 0 0))), (.d (.sc (.slice .none 0 0))), (.d (.list [[(.sc (.string ⟨⟨[112]⟩⟩))]])), (.d (.sc (.int .i64 (.ofNat 2)))), (.d (.sc (.int .i64 (.ofNat 0))))]), (.agg [(.d (.sc (.int .i64 (.ofNat 0)))), (.d (.sc (.int .i64 (.ofNat 0)))), (.d (.sc (.complex .f64 0 0)))])])
theorem Pad1 [GVals] : Comp Try.prog 10 [.one (.d (.sc (.string Pax1)))] Pav1 := ev_val hkA_ok (d := 200) (by kernel_rfl)
def Pax2 : ByteArray := ⟨⟨[85, 83, 69, 32, 112, 32, 68, 69, 70, 65, 85, 76, 84, 32, 76, 79, 71]⟩⟩
def Pav2 : V := (.tup [(.agg [(.d (.sc (.slice .none 0 0))), (.d (.sc (.slice .none 0 0))), (.d (.list [[(.sc (.string ⟨⟨[112]⟩⟩))]])), (.d (.sc (.int .i64 (.ofNat 6)))), (.d (.sc (.int .i64 (.ofNat 0))))]), (.agg [(.d (.sc (.int .i64 (.ofNat 0)))), (.d (.sc (.int .i64 (.ofNat 0)))), (.d (.sc (.complex .f64 0 0)))])])
theorem Pad2 [GVals] : Comp Try.prog 10 [.one (.d (.sc (.string Pax2)))] Pav2 := ev_val hkA_ok (d := 200) (by kernel_rfl)
def Pax3 : ByteArray := ⟨⟨[85, 83, 69, 32, 112]⟩⟩
def Pav3 : V := (.tup [(.agg [(.d (.sc (.slice .none 0 0))), (.d (.sc (.slice .none 0 0))), (.d (.sc (.slice .none 0 0))), (.d (.sc (.int .i64 (.ofNat 0)))), (.d (.sc (.int .i64 (.ofNat 0))))]), (.agg [(.d (.sc (.int .i64 (.ofNat 3)))), (.d (.sc (.int .i64 (.ofNat 9)))), (.d (.sc (.complex .f64 4619567317775286272 4619567317775286272)))])])
theorem Pad3 [GVals] : Comp Try.prog 10 [.one (.d (.sc (.string Pax3)))] Pav3 := ev_val hkA_ok (d := 200) (by kernel_rfl)
def Pax4 : ByteArray := ⟨⟨[85, 83, 69, 32, 112, 44, 32, 68, 69, 70, 65, 85, 76, 84, 32, 76, 79, 71]⟩⟩
def Pav4 : V := (.tup [(.agg [(.d (.sc (.slice .none 0 0))), (.d (.sc (.slice .none 0 0))), (.d (.sc (.slice .none 0 0))), (.d (.sc (.int .i64 (.ofNat 0)))), (.d (.sc (.int .i64 (.ofNat 0))))]), (.agg [(.d (.sc (.int .i64 (.ofNat 3)))), (.d (.sc (.int .i64 (.ofNat 0)))), (.d (.sc (.complex .f64 4607182418800017408 4620693217682128896)))])])
theorem Pad4 [GVals] : Comp Try.prog 10 [.one (.d (.sc (.string Pax4)))] Pav4 := ev_val hkA_ok (d := 200) (by kernel_rfl)
def Pax5 : ByteArray := ⟨⟨[85, 83, 69, 32, 85, 83, 69, 32, 68, 69, 70, 65, 85, 76, 84, 32, 76, 79, 71]⟩⟩
def Pav5 : V := (.tup [(.agg [(.d (.sc (.slice .none 0 0))), (.d (.sc (.slice .none 0 0))), (.d (.sc (.slice .none 0 0))), (.d (.sc (.int .i64 (.ofNat 0)))), (.d (.sc (.int .i64 (.ofNat 0))))]), (.agg [(.d (.sc (.int .i64 (.ofNat 3)))), (.d (.sc (.int .i64 (.ofNat 0)))), (.d (.sc (.complex .f64 4607182418800017408 4617315517961601024)))])])
theorem Pad5 [GVals] : Comp Try.prog 10 [.one (.d (.sc (.string Pax5)))] Pav5 := ev_val hkA_ok (d := 200) (by kernel_rfl)
def Pax6 : ByteArray := ⟨⟨[80, 79, 76, 73, 67, 89, 32, 112, 32, 123, 32, 125]⟩⟩
def Pav6 : V := (.tup [(.agg [(.d (.sc (.slice .none 0 0))), (.d (.sc (.slice .none 0 0))), (.d (.sc (.slice .none 0 0))), (.d (.sc (.int .i64 (.ofNat 0)))), (.d (.sc (.int .i64 (.ofNat 0))))]), (.agg [(.d (.sc (.int .i64 (.ofNat 11)))), (.d (.sc (.int .i64 (.ofNat 9)))), (.d (.sc (.complex .f64 4619567317775286272 4619567317775286272)))])])
theorem Pad6 [GVals] : Comp Try.prog 10 [.one (.d (.sc (.string Pax6)))] Pav6 := ev_val hkA_ok (d := 200) (by kernel_rfl)
def Pax7 : ByteArray := ⟨⟨[80, 79, 76, 73, 67, 89, 32, 112, 32, 123, 32, 125, 32, 85, 83, 69, 32, 112, 32, 68, 69, 70, 65, 85, 76, 84, 32, 76, 79, 71, 32, 85, 83, 69, 32, 112, 32, 68, 69, 70, 65, 85, 76, 84, 32, 76, 79, 71]⟩⟩
def Pav7 : V := (.tup [(.agg [(.d (.sc (.slice .none 0 0))), (.d (.sc (.slice .none 0 0))), (.d (.sc (.slice .none 0 0))), (.d (.sc (.int .i64 (.ofNat 0)))), (.d (.sc (.int .i64 (.ofNat 0))))]), (.agg [(.d (.sc (.int .i64 (.ofNat 11)))), (.d (.sc (.int .i64 (.ofNat 0)))), (.d (.sc (.complex .f64 4607182418800017408 4629700416936869888)))])])
theorem Pad7 [GVals] : Comp Try.prog 10 [.one (.d (.sc (.string Pax7)))] Pav7 := ev_val hkA_ok (d := 200) (by kernel_rfl)
def Pax8 : ByteArray := ⟨⟨[80, 79, 76, 73, 67, 89, 32, 112, 32, 123, 32, 44, 32, 125, 32, 85, 83, 69, 32, 112, 32, 68, 69, 70, 65, 85, 76, 84, 32, 76, 79, 71]⟩⟩
def Pav8 : V := (.tup [(.agg [(.d (.sc (.slice .none 0 0))), (.d (.sc (.slice .none 0 0))), (.d (.sc (.slice .none 0 0))), (.d (.sc (.int .i64 (.ofNat 0)))), (.d (.sc (.int .i64 (.ofNat 0))))]), (.agg [(.d (.sc (.int .i64 (.ofNat 3)))), (.d (.sc (.int .i64 (.ofNat 0)))), (.d (.sc (.complex .f64 4607182418800017408 4622945017495814144)))])])
theorem Pad8 [GVals] : Comp Try.prog 10 [.one (.d (.sc (.string Pax8)))] Pav8 := ev_val hkA_ok (d := 200) (by kernel_rfl)
def Pax9 : ByteArray := ⟨⟨[80, 79, 76, 73, 67, 89, 32, 112, 32, 123, 32, 85, 83, 69, 32, 113, 44, 32, 125, 32, 85, 83, 69, 32, 112, 32, 68, 69, 70, 65, 85, 76, 84, 32, 76, 79, 71]⟩⟩
def Pav9 : V := (.tup [(.agg [(.d (.sc (.slice .none 0 0))), (.d (.sc (.slice .none 0 0))), (.d (.sc (.slice .none 0 0))), (.d (.sc (.int .i64 (.ofNat 0)))), (.d (.sc (.int .i64 (.ofNat 0))))]), (.agg [(.d (.sc (.int .i64 (.ofNat 3)))), (.d (.sc (.int .i64 (.ofNat 0)))), (.d (.sc (.complex .f64 4607182418800017408 4626041242239631360)))])])
theorem Pad9 [GVals] : Comp Try.prog 10 [.one (.d (.sc (.string Pax9)))] Pav9 := ev_val hkA_ok (d := 200) (by kernel_rfl)
def Pax10 : ByteArray := ⟨⟨[80, 79, 76, 73, 67, 89, 32, 112, 32, 123, 32, 85, 83, 69, 32, 113, 32, 85, 83, 69, 32, 114, 32, 125, 32, 85, 83, 69, 32, 112, 32, 68, 69, 70, 65, 85, 76, 84, 32, 76, 79, 71]⟩⟩
def Pav10 : V := (.tup [(.agg [(.d (.list [])), (.d (.list [[(.sc (.string ⟨⟨[112]⟩⟩)), (.list [[(.sc (.string ⟨⟨[113]⟩⟩)), (.sc (.int .i64 (.ofNat 0))), (.sc (.int .i64 (.ofNat 0))), (.list [])], [(.sc (.string ⟨⟨[114]⟩⟩)), (.sc (.int .i64 (.ofNat 0))), (.sc (.int .i64 (.ofNat 0))), (.list [])]])]])), (.d (.list [[(.sc (.string ⟨⟨[112]⟩⟩))]])), (.d (.sc (.int .i64 (.ofNat 6)))), (.d (.sc (.int .i64 (.ofNat 0))))]), (.agg [(.d (.sc (.int .i64 (.ofNat 0)))), (.d (.sc (.int .i64 (.ofNat 0)))), (.d (.sc (.complex .f64 0 0)))])])
theorem Pad10 [GVals] : Comp Try.prog 10 [.one (.d (.sc (.string Pax10)))] Pav10 := ev_val hkA_ok (d := 200) (by kernel_rfl)
def Pax11 : ByteArray := ⟨⟨[80, 79, 76, 73, 67, 89, 32, 112, 32, 123, 32, 65, 76, 76, 79, 87, 32, 123, 32, 114, 101, 97, 100, 44, 32, 119, 114, 105, 116, 101, 32, 125, 32, 76, 79, 71, 32, 123, 32, 125, 32, 125, 32, 85, 83, 69, 32, 112, 32, 68, 69, 70, 65, 85, 76, 84, 32, 76, 79, 71]⟩⟩
def Pav11 : V := (.tup [(.agg [(.d (.list [])), (.d (.list [[(.sc (.string ⟨⟨[112]⟩⟩)), (.list [[(.sc (.string ⟨⟨[]⟩⟩)), (.sc (.int .i64 (.ofNat 7))), (.sc (.int .i64 (.ofNat 0))), (.list [[(.sc (.string ⟨⟨[114, 101, 97, 100]⟩⟩)), (.list []), (.list [])], [(.sc (.string ⟨⟨[119, 114, 105, 116, 101]⟩⟩)), (.list []), (.list [])]])], [(.sc (.string ⟨⟨[]⟩⟩)), (.sc (.int .i64 (.ofNat 6))), (.sc (.int .i64 (.ofNat 0))), (.list [])]])]])), (.d (.list [[(.sc (.string ⟨⟨[112]⟩⟩))]])), (.d (.sc (.int .i64 (.ofNat 6)))), (.d (.sc (.int .i64 (.ofNat 0))))]), (.agg [(.d (.sc (.int .i64 (.ofNat 0)))), (.d (.sc (.int .i64 (.ofNat 0)))), (.d (.sc (.complex .f64 0 0)))])])
theorem Pad11 [GVals] : Comp Try.prog 10 [.one (.d (.sc (.string Pax11)))] Pav11 := ev_val hkA_ok (d := 200) (by kernel_rfl)
def Pax12 : ByteArray := ⟨⟨[80, 79, 76, 73, 67, 89, 32, 112, 32, 123, 32, 65, 76, 76, 79, 87, 32, 123, 32, 114, 101, 97, 100, 44, 32, 125, 32, 125, 32, 85, 83, 69, 32, 112, 32, 68, 69, 70, 65, 85, 76, 84, 32, 76, 79, 71]⟩⟩
def Pav12 : V := (.tup [(.agg [(.d (.sc (.slice .none 0 0))), (.d (.sc (.slice .none 0 0))), (.d (.sc (.slice .none 0 0))), (.d (.sc (.int .i64 (.ofNat 0)))), (.d (.sc (.int .i64 (.ofNat 0))))]), (.agg [(.d (.sc (.int .i64 (.ofNat 3)))), (.d (.sc (.int .i64 (.ofNat 0)))), (.d (.sc (.complex .f64 4607182418800017408 4628011567076605952)))])])
theorem Pad12 [GVals] : Comp Try.prog 10 [.one (.d (.sc (.string Pax12)))] Pav12 := ev_val hkA_ok (d := 200) (by kernel_rfl)
def PaFind (s : ByteArray) : List (ByteArray × V) → Option V
  | [] => none
  | (t, v) :: r => match eqBytes t s with
    | true => some v
    | false => PaFind s r
theorem PaBytes {a b : ByteArray} (h : eqBytes a b = true) : a = b := by
  simp only [eqBytes, decide_eq_true_eq] at h
  obtain ⟨⟨a⟩⟩ := a; obtain ⟨⟨b⟩⟩ := b
  simp only at h; rw [h]
theorem PaFind_ok [GVals] {s : ByteArray} : ∀ {l : List (ByteArray × V)} {v : V}, (∀ p ∈ l, Comp Try.prog 10 [.one (.d (.sc (.string p.1)))] p.2) → PaFind s l = some v → Comp Try.prog 10 [.one (.d (.sc (.string s)))] v
  | [], v, _, h => by simp [PaFind] at h
  | (t, u) :: r, v, hl, h => by
    simp only [PaFind] at h
    split at h
    · rename_i he
      injection h with h; subst h
      have := hl (t, u) (by simp)
      rw [← PaBytes he]; exact this
    · exact PaFind_ok (fun p hp => hl p (by simp [hp])) h
def PaTab : List (ByteArray × V) := [(Pax0, Pav0), (Pax1, Pav1), (Pax2, Pav2), (Pax3, Pav3), (Pax4, Pav4), (Pax5, Pav5), (Pax6, Pav6), (Pax7, Pav7), (Pax8, Pav8), (Pax9, Pav9), (Pax10, Pav10), (Pax11, Pav11), (Pax12, Pav12)]
theorem PaTab_ok [GVals] : ∀ p ∈ PaTab, Comp Try.prog 10 [.one (.d (.sc (.string p.1)))] p.2 := by
  unfold PaTab
  refine List.forall_mem_cons.2 ⟨Pad0, ?_⟩
  refine List.forall_mem_cons.2 ⟨Pad1, ?_⟩
  refine List.forall_mem_cons.2 ⟨Pad2, ?_⟩
  refine List.forall_mem_cons.2 ⟨Pad3, ?_⟩
  refine List.forall_mem_cons.2 ⟨Pad4, ?_⟩
  refine List.forall_mem_cons.2 ⟨Pad5, ?_⟩
  refine List.forall_mem_cons.2 ⟨Pad6, ?_⟩
  refine List.forall_mem_cons.2 ⟨Pad7, ?_⟩
  refine List.forall_mem_cons.2 ⟨Pad8, ?_⟩
  refine List.forall_mem_cons.2 ⟨Pad9, ?_⟩
  refine List.forall_mem_cons.2 ⟨Pad10, ?_⟩
  refine List.forall_mem_cons.2 ⟨Pad11, ?_⟩
  refine List.forall_mem_cons.2 ⟨Pad12, ?_⟩
  intro p hp; cases hp
def PaG : List V → Option V
  | [.one (.d (.sc (.string s)))] => PaFind s PaTab
  | _ => none
theorem PaG_ok [GVals] : ∀ vs r, PaG vs = some r → Comp Try.prog 10 vs r := by
  intro vs r h
  unfold PaG at h
  split at h
  · exact PaFind_ok PaTab_ok h
  · simp at h
def hkPa : Hook := hkOr (hk1 10 PaG) hkA
theorem hkPa_ok [GVals] : HookOk Try.prog hkPa := hkOr_ok (hk1_ok PaG_ok) hkA_ok
end Go.Proofs.Ytkjlmgfmedehiaa
