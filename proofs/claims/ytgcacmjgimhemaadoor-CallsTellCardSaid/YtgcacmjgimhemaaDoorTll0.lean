/- The calls of the three architectures, as the program and as the document's answer have them. -/
import Derived.Test.YtgcacmjgimhemaaDoorBase
import Derived.Test.YtgcacmjgimhemaaDoorClA
set_option linter.unusedVariables false
set_option linter.unusedSimpArgs false
namespace Go.Proofs.YtgcacmjgimhemaaDoor
open Go Go.Am Go.Proofs
set_option maxRecDepth 100000
set_option maxHeartbeats 4000000
set_option linter.unusedVariables false
/-- a call -/
structure Cal where
  name : ByteArray
  nr : Int
  ps : List ByteArray
def strow7 (s : ByteArray) : List D := [.sc (.string s)]
def Cal.row1 (x : Cal) : List D := [.sc (.string x.name), .sc (.int .u32 x.nr), .list (x.ps.map strow7)]
def Cal.cells1 (x : Cal) : List Cell := [.d (.sc (.string x.name)), .d (.sc (.int .u32 x.nr)), .d (.list (x.ps.map strow7))]
/-- a row of the document's table -/
structure Rw where
  name : ByteArray
  ps : D
  amd : Int
  x86 : Int
  arm : Int
def Rw.row (x : Rw) : List D := [.sc (.string x.name), x.ps, .sc (.int .i64 x.amd), .sc (.int .i64 x.x86), .sc (.int .i64 x.arm)]
def rwL : List Rw := [⟨⟨#[98, 114, 107]⟩, .list [[.sc (.string ⟨#[97, 100, 100, 114]⟩)]], 12, 45, 214⟩, ⟨⟨#[99, 108, 111, 115, 101]⟩, .list [[.sc (.string ⟨#[102, 100]⟩)]], 3, 6, 57⟩, ⟨⟨#[100, 117, 112]⟩, .list [[.sc (.string ⟨#[102, 100]⟩)]], 32, 41, 23⟩, ⟨⟨#[101, 120, 105, 116]⟩, .list [[.sc (.string ⟨#[99, 111, 100, 101]⟩)]], 60, 1, 93⟩, ⟨⟨#[101, 120, 105, 116, 95, 103, 114, 111, 117, 112]⟩, .list [[.sc (.string ⟨#[99, 111, 100, 101]⟩)]], 231, 252, 94⟩, ⟨⟨#[103, 101, 116, 112, 105, 100]⟩, .list [], 39, 20, 172⟩, ⟨⟨#[105, 111, 99, 116, 108]⟩, .list [[.sc (.string ⟨#[102, 100]⟩)], [.sc (.string ⟨#[114, 101, 113, 117, 101, 115, 116]⟩)], [.sc (.string ⟨#[97, 114, 103]⟩)]], 16, 54, 29⟩, ⟨⟨#[107, 105, 108, 108]⟩, .list [[.sc (.string ⟨#[112, 105, 100]⟩)], [.sc (.string ⟨#[115, 105, 103]⟩)]], 62, 37, 129⟩, ⟨⟨#[109, 109, 97, 112]⟩, .list [[.sc (.string ⟨#[97, 100, 100, 114]⟩)], [.sc (.string ⟨#[108, 101, 110]⟩)], [.sc (.string ⟨#[112, 114, 111, 116]⟩)], [.sc (.string ⟨#[102, 108, 97, 103, 115]⟩)], [.sc (.string ⟨#[102, 100]⟩)], [.sc (.string ⟨#[111, 102, 102]⟩)]], 9, 90, 222⟩, ⟨⟨#[109, 112, 114, 111, 116, 101, 99, 116]⟩, .list [[.sc (.string ⟨#[97, 100, 100, 114]⟩)], [.sc (.string ⟨#[108, 101, 110]⟩)], [.sc (.string ⟨#[112, 114, 111, 116]⟩)]], 10, 125, 226⟩, ⟨⟨#[109, 117, 110, 109, 97, 112]⟩, .list [[.sc (.string ⟨#[97, 100, 100, 114]⟩)], [.sc (.string ⟨#[108, 101, 110]⟩)]], 11, 91, 215⟩, ⟨⟨#[111, 112, 101, 110]⟩, .list [[.sc (.string ⟨#[112, 97, 116, 104]⟩)], [.sc (.string ⟨#[102, 108, 97, 103, 115]⟩)], [.sc (.string ⟨#[109, 111, 100, 101]⟩)]], 2, 5, -1⟩, ⟨⟨#[111, 112, 101, 110, 97, 116]⟩, .list [[.sc (.string ⟨#[100, 105, 114]⟩)], [.sc (.string ⟨#[112, 97, 116, 104]⟩)], [.sc (.string ⟨#[102, 108, 97, 103, 115]⟩)], [.sc (.string ⟨#[109, 111, 100, 101]⟩)]], 257, 295, 56⟩, ⟨⟨#[112, 114, 99, 116, 108]⟩, .list [[.sc (.string ⟨#[111, 112, 116, 105, 111, 110]⟩)], [.sc (.string ⟨#[97]⟩)], [.sc (.string ⟨#[98]⟩)], [.sc (.string ⟨#[99]⟩)], [.sc (.string ⟨#[100]⟩)]], 157, 172, 167⟩, ⟨⟨#[114, 101, 97, 100]⟩, .list [[.sc (.string ⟨#[102, 100]⟩)], [.sc (.string ⟨#[98, 117, 102]⟩)], [.sc (.string ⟨#[99, 111, 117, 110, 116]⟩)]], 0, 3, 63⟩, ⟨⟨#[115, 111, 99, 107, 101, 116]⟩, .list [[.sc (.string ⟨#[102, 97, 109, 105, 108, 121]⟩)], [.sc (.string ⟨#[116, 121, 112, 101]⟩)], [.sc (.string ⟨#[112, 114, 111, 116, 111, 99, 111, 108]⟩)]], 41, 359, 198⟩, ⟨⟨#[119, 114, 105, 116, 101]⟩, .list [[.sc (.string ⟨#[102, 100]⟩)], [.sc (.string ⟨#[98, 117, 102]⟩)], [.sc (.string ⟨#[99, 111, 117, 110, 116]⟩)]], 1, 4, 64⟩]
theorem rowsR [GVals] : Comp Tryd.prog 35 [] (lst Rw.row rwL) := ev_val noHook_ok (d := 200) (by kernel_rfl)
def arch0 : ByteArray := ⟨#[97, 97, 114, 99, 104, 54, 52]⟩
def calL0 : List Cal := [⟨⟨#[98, 114, 107]⟩, 214, [⟨#[97, 100, 100, 114]⟩]⟩, ⟨⟨#[99, 108, 111, 115, 101]⟩, 57, [⟨#[102, 100]⟩]⟩, ⟨⟨#[100, 117, 112]⟩, 23, [⟨#[102, 100]⟩]⟩, ⟨⟨#[101, 120, 105, 116]⟩, 93, [⟨#[99, 111, 100, 101]⟩]⟩, ⟨⟨#[101, 120, 105, 116, 95, 103, 114, 111, 117, 112]⟩, 94, [⟨#[99, 111, 100, 101]⟩]⟩, ⟨⟨#[103, 101, 116, 112, 105, 100]⟩, 172, []⟩, ⟨⟨#[105, 111, 99, 116, 108]⟩, 29, [⟨#[102, 100]⟩, ⟨#[114, 101, 113, 117, 101, 115, 116]⟩, ⟨#[97, 114, 103]⟩]⟩, ⟨⟨#[107, 105, 108, 108]⟩, 129, [⟨#[112, 105, 100]⟩, ⟨#[115, 105, 103]⟩]⟩, ⟨⟨#[109, 109, 97, 112]⟩, 222, [⟨#[97, 100, 100, 114]⟩, ⟨#[108, 101, 110]⟩, ⟨#[112, 114, 111, 116]⟩, ⟨#[102, 108, 97, 103, 115]⟩, ⟨#[102, 100]⟩, ⟨#[111, 102, 102]⟩]⟩, ⟨⟨#[109, 112, 114, 111, 116, 101, 99, 116]⟩, 226, [⟨#[97, 100, 100, 114]⟩, ⟨#[108, 101, 110]⟩, ⟨#[112, 114, 111, 116]⟩]⟩, ⟨⟨#[109, 117, 110, 109, 97, 112]⟩, 215, [⟨#[97, 100, 100, 114]⟩, ⟨#[108, 101, 110]⟩]⟩, ⟨⟨#[111, 112, 101, 110, 97, 116]⟩, 56, [⟨#[100, 105, 114]⟩, ⟨#[112, 97, 116, 104]⟩, ⟨#[102, 108, 97, 103, 115]⟩, ⟨#[109, 111, 100, 101]⟩]⟩, ⟨⟨#[112, 114, 99, 116, 108]⟩, 167, [⟨#[111, 112, 116, 105, 111, 110]⟩, ⟨#[97]⟩, ⟨#[98]⟩, ⟨#[99]⟩, ⟨#[100]⟩]⟩, ⟨⟨#[114, 101, 97, 100]⟩, 63, [⟨#[102, 100]⟩, ⟨#[98, 117, 102]⟩, ⟨#[99, 111, 117, 110, 116]⟩]⟩, ⟨⟨#[115, 111, 99, 107, 101, 116]⟩, 198, [⟨#[102, 97, 109, 105, 108, 121]⟩, ⟨#[116, 121, 112, 101]⟩, ⟨#[112, 114, 111, 116, 111, 99, 111, 108]⟩]⟩, ⟨⟨#[119, 114, 105, 116, 101]⟩, 64, [⟨#[102, 100]⟩, ⟨#[98, 117, 102]⟩, ⟨#[99, 111, 117, 110, 116]⟩]⟩]
theorem all0 [GVals] : Comp Tryd.prog 11 [str arch0] (lst Cal.row1 calL0) := ev_val hkAl_ok (d := 200) (by kernel_rfl)
theorem cls0 [GVals] : Comp Tryd.prog 19 [str arch0] (lst Cal.row1 calL0) := ev_val noHook_ok (d := 200) (by kernel_rfl)
theorem nu0 [GVals] : Comp Tryd.prog 14 [str arch0] (.tup [.one (.d (.sc (.int .u32 3221225655))), .one (.d (.sc (.bool true)))]) := ev_val noHook_ok (d := 200) (by kernel_rfl)
theorem ar0 [GVals] : Comp Tryd.prog 15 [str arch0] (.tup [.one (.d (.sc (.int .u32 3221225655))), .one (.d (.sc (.bool true)))]) := ev_val noHook_ok (d := 200) (by kernel_rfl)
theorem same0 [GVals] : ∀ x ∈ calL0, Comp Tryd.prog 13 [.agg x.cells1, .agg x.cells1] (Am.bool true) := by
  unfold calL0
  refine List.forall_mem_cons.2 ⟨ev_true noHook_ok (d := 200) (by kernel_rfl), ?_⟩
  refine List.forall_mem_cons.2 ⟨ev_true noHook_ok (d := 200) (by kernel_rfl), ?_⟩
  refine List.forall_mem_cons.2 ⟨ev_true noHook_ok (d := 200) (by kernel_rfl), ?_⟩
  refine List.forall_mem_cons.2 ⟨ev_true noHook_ok (d := 200) (by kernel_rfl), ?_⟩
  refine List.forall_mem_cons.2 ⟨ev_true noHook_ok (d := 200) (by kernel_rfl), ?_⟩
  refine List.forall_mem_cons.2 ⟨ev_true noHook_ok (d := 200) (by kernel_rfl), ?_⟩
  refine List.forall_mem_cons.2 ⟨ev_true noHook_ok (d := 200) (by kernel_rfl), ?_⟩
  refine List.forall_mem_cons.2 ⟨ev_true noHook_ok (d := 200) (by kernel_rfl), ?_⟩
  refine List.forall_mem_cons.2 ⟨ev_true noHook_ok (d := 200) (by kernel_rfl), ?_⟩
  refine List.forall_mem_cons.2 ⟨ev_true noHook_ok (d := 200) (by kernel_rfl), ?_⟩
  refine List.forall_mem_cons.2 ⟨ev_true noHook_ok (d := 200) (by kernel_rfl), ?_⟩
  refine List.forall_mem_cons.2 ⟨ev_true noHook_ok (d := 200) (by kernel_rfl), ?_⟩
  refine List.forall_mem_cons.2 ⟨ev_true noHook_ok (d := 200) (by kernel_rfl), ?_⟩
  refine List.forall_mem_cons.2 ⟨ev_true noHook_ok (d := 200) (by kernel_rfl), ?_⟩
  refine List.forall_mem_cons.2 ⟨ev_true noHook_ok (d := 200) (by kernel_rfl), ?_⟩
  refine List.forall_mem_cons.2 ⟨ev_true noHook_ok (d := 200) (by kernel_rfl), ?_⟩
  intro x hx; cases hx
def arch1 : ByteArray := ⟨#[105, 51, 56, 54]⟩
def calL1 : List Cal := [⟨⟨#[98, 114, 107]⟩, 45, [⟨#[97, 100, 100, 114]⟩]⟩, ⟨⟨#[99, 108, 111, 115, 101]⟩, 6, [⟨#[102, 100]⟩]⟩, ⟨⟨#[100, 117, 112]⟩, 41, [⟨#[102, 100]⟩]⟩, ⟨⟨#[101, 120, 105, 116]⟩, 1, [⟨#[99, 111, 100, 101]⟩]⟩, ⟨⟨#[101, 120, 105, 116, 95, 103, 114, 111, 117, 112]⟩, 252, [⟨#[99, 111, 100, 101]⟩]⟩, ⟨⟨#[103, 101, 116, 112, 105, 100]⟩, 20, []⟩, ⟨⟨#[105, 111, 99, 116, 108]⟩, 54, [⟨#[102, 100]⟩, ⟨#[114, 101, 113, 117, 101, 115, 116]⟩, ⟨#[97, 114, 103]⟩]⟩, ⟨⟨#[107, 105, 108, 108]⟩, 37, [⟨#[112, 105, 100]⟩, ⟨#[115, 105, 103]⟩]⟩, ⟨⟨#[109, 109, 97, 112]⟩, 90, [⟨#[97, 100, 100, 114]⟩, ⟨#[108, 101, 110]⟩, ⟨#[112, 114, 111, 116]⟩, ⟨#[102, 108, 97, 103, 115]⟩, ⟨#[102, 100]⟩, ⟨#[111, 102, 102]⟩]⟩, ⟨⟨#[109, 112, 114, 111, 116, 101, 99, 116]⟩, 125, [⟨#[97, 100, 100, 114]⟩, ⟨#[108, 101, 110]⟩, ⟨#[112, 114, 111, 116]⟩]⟩, ⟨⟨#[109, 117, 110, 109, 97, 112]⟩, 91, [⟨#[97, 100, 100, 114]⟩, ⟨#[108, 101, 110]⟩]⟩, ⟨⟨#[111, 112, 101, 110]⟩, 5, [⟨#[112, 97, 116, 104]⟩, ⟨#[102, 108, 97, 103, 115]⟩, ⟨#[109, 111, 100, 101]⟩]⟩, ⟨⟨#[111, 112, 101, 110, 97, 116]⟩, 295, [⟨#[100, 105, 114]⟩, ⟨#[112, 97, 116, 104]⟩, ⟨#[102, 108, 97, 103, 115]⟩, ⟨#[109, 111, 100, 101]⟩]⟩, ⟨⟨#[112, 114, 99, 116, 108]⟩, 172, [⟨#[111, 112, 116, 105, 111, 110]⟩, ⟨#[97]⟩, ⟨#[98]⟩, ⟨#[99]⟩, ⟨#[100]⟩]⟩, ⟨⟨#[114, 101, 97, 100]⟩, 3, [⟨#[102, 100]⟩, ⟨#[98, 117, 102]⟩, ⟨#[99, 111, 117, 110, 116]⟩]⟩, ⟨⟨#[115, 111, 99, 107, 101, 116]⟩, 359, [⟨#[102, 97, 109, 105, 108, 121]⟩, ⟨#[116, 121, 112, 101]⟩, ⟨#[112, 114, 111, 116, 111, 99, 111, 108]⟩]⟩, ⟨⟨#[119, 114, 105, 116, 101]⟩, 4, [⟨#[102, 100]⟩, ⟨#[98, 117, 102]⟩, ⟨#[99, 111, 117, 110, 116]⟩]⟩]
theorem all1 [GVals] : Comp Tryd.prog 11 [str arch1] (lst Cal.row1 calL1) := ev_val hkAl_ok (d := 200) (by kernel_rfl)
theorem cls1 [GVals] : Comp Tryd.prog 19 [str arch1] (lst Cal.row1 calL1) := ev_val noHook_ok (d := 200) (by kernel_rfl)
theorem nu1 [GVals] : Comp Tryd.prog 14 [str arch1] (.tup [.one (.d (.sc (.int .u32 1073741827))), .one (.d (.sc (.bool true)))]) := ev_val noHook_ok (d := 200) (by kernel_rfl)
theorem ar1 [GVals] : Comp Tryd.prog 15 [str arch1] (.tup [.one (.d (.sc (.int .u32 1073741827))), .one (.d (.sc (.bool true)))]) := ev_val noHook_ok (d := 200) (by kernel_rfl)
theorem same1 [GVals] : ∀ x ∈ calL1, Comp Tryd.prog 13 [.agg x.cells1, .agg x.cells1] (Am.bool true) := by
  unfold calL1
  refine List.forall_mem_cons.2 ⟨ev_true noHook_ok (d := 200) (by kernel_rfl), ?_⟩
  refine List.forall_mem_cons.2 ⟨ev_true noHook_ok (d := 200) (by kernel_rfl), ?_⟩
  refine List.forall_mem_cons.2 ⟨ev_true noHook_ok (d := 200) (by kernel_rfl), ?_⟩
  refine List.forall_mem_cons.2 ⟨ev_true noHook_ok (d := 200) (by kernel_rfl), ?_⟩
  refine List.forall_mem_cons.2 ⟨ev_true noHook_ok (d := 200) (by kernel_rfl), ?_⟩
  refine List.forall_mem_cons.2 ⟨ev_true noHook_ok (d := 200) (by kernel_rfl), ?_⟩
  refine List.forall_mem_cons.2 ⟨ev_true noHook_ok (d := 200) (by kernel_rfl), ?_⟩
  refine List.forall_mem_cons.2 ⟨ev_true noHook_ok (d := 200) (by kernel_rfl), ?_⟩
  refine List.forall_mem_cons.2 ⟨ev_true noHook_ok (d := 200) (by kernel_rfl), ?_⟩
  refine List.forall_mem_cons.2 ⟨ev_true noHook_ok (d := 200) (by kernel_rfl), ?_⟩
  refine List.forall_mem_cons.2 ⟨ev_true noHook_ok (d := 200) (by kernel_rfl), ?_⟩
  refine List.forall_mem_cons.2 ⟨ev_true noHook_ok (d := 200) (by kernel_rfl), ?_⟩
  refine List.forall_mem_cons.2 ⟨ev_true noHook_ok (d := 200) (by kernel_rfl), ?_⟩
  refine List.forall_mem_cons.2 ⟨ev_true noHook_ok (d := 200) (by kernel_rfl), ?_⟩
  refine List.forall_mem_cons.2 ⟨ev_true noHook_ok (d := 200) (by kernel_rfl), ?_⟩
  refine List.forall_mem_cons.2 ⟨ev_true noHook_ok (d := 200) (by kernel_rfl), ?_⟩
  refine List.forall_mem_cons.2 ⟨ev_true noHook_ok (d := 200) (by kernel_rfl), ?_⟩
  intro x hx; cases hx
def arch2 : ByteArray := ⟨#[120, 56, 54, 95, 54, 52]⟩
def calL2 : List Cal := [⟨⟨#[98, 114, 107]⟩, 12, [⟨#[97, 100, 100, 114]⟩]⟩, ⟨⟨#[99, 108, 111, 115, 101]⟩, 3, [⟨#[102, 100]⟩]⟩, ⟨⟨#[100, 117, 112]⟩, 32, [⟨#[102, 100]⟩]⟩, ⟨⟨#[101, 120, 105, 116]⟩, 60, [⟨#[99, 111, 100, 101]⟩]⟩, ⟨⟨#[101, 120, 105, 116, 95, 103, 114, 111, 117, 112]⟩, 231, [⟨#[99, 111, 100, 101]⟩]⟩, ⟨⟨#[103, 101, 116, 112, 105, 100]⟩, 39, []⟩, ⟨⟨#[105, 111, 99, 116, 108]⟩, 16, [⟨#[102, 100]⟩, ⟨#[114, 101, 113, 117, 101, 115, 116]⟩, ⟨#[97, 114, 103]⟩]⟩, ⟨⟨#[107, 105, 108, 108]⟩, 62, [⟨#[112, 105, 100]⟩, ⟨#[115, 105, 103]⟩]⟩, ⟨⟨#[109, 109, 97, 112]⟩, 9, [⟨#[97, 100, 100, 114]⟩, ⟨#[108, 101, 110]⟩, ⟨#[112, 114, 111, 116]⟩, ⟨#[102, 108, 97, 103, 115]⟩, ⟨#[102, 100]⟩, ⟨#[111, 102, 102]⟩]⟩, ⟨⟨#[109, 112, 114, 111, 116, 101, 99, 116]⟩, 10, [⟨#[97, 100, 100, 114]⟩, ⟨#[108, 101, 110]⟩, ⟨#[112, 114, 111, 116]⟩]⟩, ⟨⟨#[109, 117, 110, 109, 97, 112]⟩, 11, [⟨#[97, 100, 100, 114]⟩, ⟨#[108, 101, 110]⟩]⟩, ⟨⟨#[111, 112, 101, 110]⟩, 2, [⟨#[112, 97, 116, 104]⟩, ⟨#[102, 108, 97, 103, 115]⟩, ⟨#[109, 111, 100, 101]⟩]⟩, ⟨⟨#[111, 112, 101, 110, 97, 116]⟩, 257, [⟨#[100, 105, 114]⟩, ⟨#[112, 97, 116, 104]⟩, ⟨#[102, 108, 97, 103, 115]⟩, ⟨#[109, 111, 100, 101]⟩]⟩, ⟨⟨#[112, 114, 99, 116, 108]⟩, 157, [⟨#[111, 112, 116, 105, 111, 110]⟩, ⟨#[97]⟩, ⟨#[98]⟩, ⟨#[99]⟩, ⟨#[100]⟩]⟩, ⟨⟨#[114, 101, 97, 100]⟩, 0, [⟨#[102, 100]⟩, ⟨#[98, 117, 102]⟩, ⟨#[99, 111, 117, 110, 116]⟩]⟩, ⟨⟨#[115, 111, 99, 107, 101, 116]⟩, 41, [⟨#[102, 97, 109, 105, 108, 121]⟩, ⟨#[116, 121, 112, 101]⟩, ⟨#[112, 114, 111, 116, 111, 99, 111, 108]⟩]⟩, ⟨⟨#[119, 114, 105, 116, 101]⟩, 1, [⟨#[102, 100]⟩, ⟨#[98, 117, 102]⟩, ⟨#[99, 111, 117, 110, 116]⟩]⟩]
theorem all2 [GVals] : Comp Tryd.prog 11 [str arch2] (lst Cal.row1 calL2) := ev_val hkAl_ok (d := 200) (by kernel_rfl)
theorem cls2 [GVals] : Comp Tryd.prog 19 [str arch2] (lst Cal.row1 calL2) := ev_val noHook_ok (d := 200) (by kernel_rfl)
theorem nu2 [GVals] : Comp Tryd.prog 14 [str arch2] (.tup [.one (.d (.sc (.int .u32 3221225534))), .one (.d (.sc (.bool true)))]) := ev_val noHook_ok (d := 200) (by kernel_rfl)
theorem ar2 [GVals] : Comp Tryd.prog 15 [str arch2] (.tup [.one (.d (.sc (.int .u32 3221225534))), .one (.d (.sc (.bool true)))]) := ev_val noHook_ok (d := 200) (by kernel_rfl)
theorem same2 [GVals] : ∀ x ∈ calL2, Comp Tryd.prog 13 [.agg x.cells1, .agg x.cells1] (Am.bool true) := by
  unfold calL2
  refine List.forall_mem_cons.2 ⟨ev_true noHook_ok (d := 200) (by kernel_rfl), ?_⟩
  refine List.forall_mem_cons.2 ⟨ev_true noHook_ok (d := 200) (by kernel_rfl), ?_⟩
  refine List.forall_mem_cons.2 ⟨ev_true noHook_ok (d := 200) (by kernel_rfl), ?_⟩
  refine List.forall_mem_cons.2 ⟨ev_true noHook_ok (d := 200) (by kernel_rfl), ?_⟩
  refine List.forall_mem_cons.2 ⟨ev_true noHook_ok (d := 200) (by kernel_rfl), ?_⟩
  refine List.forall_mem_cons.2 ⟨ev_true noHook_ok (d := 200) (by kernel_rfl), ?_⟩
  refine List.forall_mem_cons.2 ⟨ev_true noHook_ok (d := 200) (by kernel_rfl), ?_⟩
  refine List.forall_mem_cons.2 ⟨ev_true noHook_ok (d := 200) (by kernel_rfl), ?_⟩
  refine List.forall_mem_cons.2 ⟨ev_true noHook_ok (d := 200) (by kernel_rfl), ?_⟩
  refine List.forall_mem_cons.2 ⟨ev_true noHook_ok (d := 200) (by kernel_rfl), ?_⟩
  refine List.forall_mem_cons.2 ⟨ev_true noHook_ok (d := 200) (by kernel_rfl), ?_⟩
  refine List.forall_mem_cons.2 ⟨ev_true noHook_ok (d := 200) (by kernel_rfl), ?_⟩
  refine List.forall_mem_cons.2 ⟨ev_true noHook_ok (d := 200) (by kernel_rfl), ?_⟩
  refine List.forall_mem_cons.2 ⟨ev_true noHook_ok (d := 200) (by kernel_rfl), ?_⟩
  refine List.forall_mem_cons.2 ⟨ev_true noHook_ok (d := 200) (by kernel_rfl), ?_⟩
  refine List.forall_mem_cons.2 ⟨ev_true noHook_ok (d := 200) (by kernel_rfl), ?_⟩
  refine List.forall_mem_cons.2 ⟨ev_true noHook_ok (d := 200) (by kernel_rfl), ?_⟩
  intro x hx; cases hx
def zeroC : List Cell := [.d (.sc (.string ⟨#[]⟩)), .d (.sc (.int .u32 0)), .d (.list [])]
theorem sameZ [GVals] : Comp Tryd.prog 13 [.agg zeroC, .agg zeroC] (Am.bool true) := ev_true noHook_ok (d := 200) (by kernel_rfl)
end Go.Proofs.YtgcacmjgimhemaaDoor
