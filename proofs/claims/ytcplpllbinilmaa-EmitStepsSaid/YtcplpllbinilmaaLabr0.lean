/- Labels: what is linked, and how it runs. -/
import Derived.Test.YtcplpllbinilmaaLab18
set_option linter.unusedVariables false
set_option linter.unusedSimpArgs false
namespace Go.Proofs.Ytcplpllbinilmaa
open Go Go.Am Go.Proofs
attribute [local irreducible] W WL DL WO RoundEnd
set_option maxRecDepth 100000
set_option maxHeartbeats 4000000
set_option linter.unusedVariables false
set_option linter.unusedSimpArgs false
theorem zz0 : -9223372036854775808 ≤ (0 : Int) ∧ (0 : Int) < 9223372036854775808 := by decide
theorem ins_ok (m : LM) (pl : List Int) (fa : List (Bool × Bool)) (i : Nat) (x : Sym) (hb : ∀ n, 0 ≤ getI pl n ∧ getI pl n ≤ 2 ^ 42) (hk : 0 ≤ x.k ∧ x.k < 2 ^ 32) : ∀ y ∈ insF m pl fa i x, y.ok := by
  have h1 := hb i
  have h2 := hb (goesF m i x.t).1
  have h3 := hb (goesF m i x.f).1
  have ja : ∀ k : Int, (⟨5, 0, 0, IntKind.wrap .u32 k⟩ : Ins).ok := by
    intro k
    have := w32_ok k
    exact ⟨zz0, zz0, this.1, this.2⟩
  unfold insF
  cases isJumpF x.code with
  | false =>
    simp only [cond_false]
    cases x.code == 5 with
    | true =>
      intro y hy
      simp only [cond_true, List.mem_singleton] at hy
      subst hy; exact ja _
    | false =>
      intro y hy
      simp only [cond_false, List.mem_singleton] at hy
      subst hy
      exact ⟨zz0, zz0, hk.1, hk.2⟩
  | true =>
    simp only [cond_true]
    unfold jumpF tgtF
    generalize getI pl i = s at *
    generalize getI pl (goesF m i x.t).1 = t at *
    generalize getI pl (goesF m i x.f).1 = f at *
    obtain ⟨a, b⟩ := getB fa i
    intro y hy
    rcases List.mem_cons.1 hy with rfl | hy
    · refine ⟨?_, ?_, hk.1, hk.2⟩
      · cases a <;> simp only [cond_true, cond_false] <;> omega
      · cases b <;> cases a <;> simp only [cond_true, cond_false] <;> omega
    · rcases List.mem_append.1 hy with hy | hy
      · cases a with
        | false => simp at hy
        | true => simp only [cond_true, List.mem_singleton] at hy; subst hy; exact ja _
      · cases b with
        | false => simp at hy
        | true => simp only [cond_true, List.mem_singleton] at hy; subst hy; exact ja _
theorem out_ok (m : LM) (pl : List Int) (fa : List (Bool × Bool)) (hb : ∀ n, 0 ≤ getI pl n ∧ getI pl n ≤ 2 ^ 42) : ∀ (l : List Sym) (i : Nat), (∀ x ∈ l, 0 ≤ x.k ∧ x.k < 2 ^ 32) → ∀ y ∈ outG m pl fa i l, y.ok
  | [], i, _, y, hy => by cases hy
  | x :: r, i, hk, y, hy => by
    rw [outG] at hy
    rcases List.mem_append.1 hy with hy | hy
    · exact ins_ok m pl fa i x hb (hk x (by simp)) y hy
    · exact out_ok m pl fa hb r (i + 1) (fun z hz => hk z (by simp [hz])) y hy
/-- what is linked, and how it runs -/
theorem link_runs {l : List Sym} (hl : l.length ≤ 1365) (hr : rightF l = true) (hk : ∀ x ∈ l, 0 ≤ x.k ∧ x.k < 2 ^ 32) :
    ∃ out : List Ins, Comp Try.prog 10 [lst Sym.row l] (.tup [.one (.d (.list (out.map Ins.row))), .one (.d (.sc (.int .i64 0)))]) ∧ out = outL l (linkM l) (linkFa l) ∧ 1 ≤ out.length ∧ out.length ≤ 3 * l.length ∧ (∀ x ∈ out, x.ok) ∧
      ∀ (d : Dat) (mach : Mach), ∃ n : Int, runF out d 4096 0 0 mach = ((runSyms l d (l.length + 1) 0 mach).1, n, (runSyms l d (l.length + 1) 0 mach).2) := by
  have hf := fin_link hr
  have hlen := outL_len hf
  have hsc := sumC_le (linkFa l)
  have hfl := hf.len
  have hpos : 1 ≤ l.length := by
    cases l with
    | nil => unfold rightF at hr; simp at hr
    | cons x r => simp
  refine ⟨_, linkYes l hl hr, rfl, by omega, by omega, out_ok _ _ _ (fun n => by have := getI_lay (fa := linkFa l) n; omega) l 0 hk, fun d mach => ?_⟩
  have hs := link_sim hf (by omega) d l.length (l.length + 1) 4096 0 0 mach (by omega) (by omega) (by omega) (by omega)
  have h0 : posN (linkFa l) 0 = 0 := rfl
  rw [h0] at hs
  exact ⟨(runF (outL l (linkM l) (linkFa l)) d 4096 0 0 mach).2.1, Prod.ext hs.1 (Prod.ext rfl hs.2)⟩
end Go.Proofs.Ytcplpllbinilmaa
