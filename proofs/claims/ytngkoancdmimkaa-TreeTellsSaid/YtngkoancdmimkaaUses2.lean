/- A part of a proof: functions of the program, walked over the abstract machine. -/
import Derived.Test.YtngkoancdmimkaaUses1
set_option linter.unusedVariables false
set_option linter.unusedSimpArgs false
namespace Go.Proofs.Ytngkoancdmimkaa
open Go Go.Am Go.Proofs
attribute [local irreducible] W WL DL WO RoundEnd
set_option maxRecDepth 10000
set_option maxHeartbeats 4000000
def Act.eqb (a b : Act) : Bool := a.kind == b.kind && a.data == b.data
def Rule.eqb (r s : Rule) : Bool := r.call == s.call && (pw (· == ·) r.params s.params && Ex.eqbs r.cond s.cond)
def Part.eqb (p q : Part) : Bool := p.use == q.use && (p.act.eqb q.act && pw Rule.eqb p.rules q.rules)
def Rule.ok (r : Rule) : Prop := r.params.length * 16 ≤ 2 ^ 47 ∧ r.cond.length * 72 ≤ 2 ^ 47 ∧ Ex.oks r.cond
def Part.ok (p : Part) : Prop := p.rules.length * 64 ≤ 2 ^ 47 ∧ ∀ r ∈ p.rules, r.ok
def Part.cells (x : Part) : List Cell := [.d (.sc (.string x.use)), .d (.sc (.int .i64 x.act.kind)), .d (.sc (.int .i64 x.act.data)), .d (.list (x.rules.map Rule.row))]
def Rule.cells (x : Rule) : List Cell := [.d (.sc (.string x.call)), .d (.list (x.params.map strow)), .d (.list (x.cond.map Ex.row))]
theorem samePartsR (a b : List Part) (hla : a.length < 2 ^ 60) (hok : ∀ p ∈ a, p.ok) : Comp Try.prog 52 [lst Part.row a, lst Part.row b] (bool (pw Part.eqb a b)) := by
  refine Spec.body (C := cx [] 110) fits (fn := Try.f52) Try.func52 rfl (by decide) (by decide) (gI ?_)
  repeat' (first
    | ((first | refine gC fits mixed ?_ | refine gC0 fits mixed ?_ | refine gO fits mixed ?_ | refine gR fits mixed ?_); (conv => whnf); first | (refine ⟨fun hb => ?_, fun hb => ?_⟩ <;> try first | (simp only [Bool.not_true, Bool.not_false, Bool.true_eq_false, Bool.false_eq_true, reduceCtorEq] at hb; done) | exact Bool.noConfusion (hb.symm.trans (by assumption) : true = false) | exact Bool.noConfusion (hb.symm.trans (by assumption) : false = true) | (simp only [decide_eq_true_eq, decide_eq_false_iff_not, beq_iff_eq, beq_eq_false_iff_ne, bne_iff_ne, bne_eq_false_iff_eq, ne_eq, List.length_map, List.length_cons, List.length_nil, List.length_append, Bool.not_eq_true', Bool.not_eq_false'] at hb; exfalso; omega) | (exfalso; simp [ba_beq, IntKind.wrap, IntKind.bits, IntKind.signed] at hb; done)) | (show W _ _ _ _ _) | (show ∀ k, WL _ _ _ k _ _ _) | (show ∀ k, DL _ _ _ k _ _ _ _) | (show RoundEnd _ _ _ _ _) | refine fR ?_ | (show _ ∧ Go.Am.Fin _ _ _ _ _ _))
    | (show ∀ k, WL _ _ _ k _ _ _; first | refine fun k => lSA fits (oW ?_ _) | refine fun k => lL fits (oW ?_ _) | refine fun k => lQ fits (oW ?_ _) | refine fun k => lX fits (oW ?_ _) | refine fun k => lXa fits (oW ?_ _) | refine fun k => lXs fits (oW ?_ _) | refine fun k => lK fits (oW ?_ _) | refine fun k => lKa fits (oW ?_ _) | refine fun k => lLk fits (oW ?_ _) | refine fun k => lUp fits (oW ?_ _) | refine fun k => lDel fits (oW ?_ _) | refine fun k => lSt fits (oW ?_ _) | refine fun k => lLU fits (oW ?_ _) | refine fun k => lM fits (oW ?_ _) | refine fun k => lA fits (oW ?_ _) | refine fun k => lA0 fits (oW ?_ _) | refine fun k => lA1 fits (oW ?_ _) | refine fun k => lMk fits (oW ?_ _) | refine fun k => lW fits (oW ?_ _)))
  · refine ⟨?_, rfl⟩
    simp at hb
    rw [pw_len (by omega)]; rfl
  simp at hb
  refine wLoop [0, 1, 5] 0 (a.length + 1) ?_
  refine (fun key => key a b [] [] _ rfl rfl rfl rfl (by omega) rfl : (∀ (r1 r2 d1 d2 : List Part) (j : Int), a = d1 ++ r1 → b = d2 ++ r2 → j = d1.length → j = d2.length → r1.length = r2.length → pw Part.eqb a b = pw Part.eqb r1 r2 →
    WR2 _ _ _ _ _ (r1.length + 1) [(0, lst Part.row a), (1, lst Part.row b), (5, int .i64 j)] []) → _) ?_
  intro r1
  induction r1 with
  | nil =>
    intro r2 d1 d2 j h1 h2 hj hj2 hr hs
    have hlen : a.length = d1.length := by subst h1; simp
    have : r2 = [] := List.length_eq_zero_iff.1 (by simpa using hr.symm)
    subst this
    refine wR (gI ?_)
    repeat' (first
    | ((first | refine gC fits mixed ?_ | refine gC0 fits mixed ?_ | refine gO fits mixed ?_ | refine gR fits mixed ?_); (conv => whnf); first | (refine ⟨fun hb => ?_, fun hb => ?_⟩ <;> try first | (simp only [Bool.not_true, Bool.not_false, Bool.true_eq_false, Bool.false_eq_true, reduceCtorEq] at hb; done) | exact Bool.noConfusion (hb.symm.trans (by assumption) : true = false) | exact Bool.noConfusion (hb.symm.trans (by assumption) : false = true) | (simp only [decide_eq_true_eq, decide_eq_false_iff_not, beq_iff_eq, beq_eq_false_iff_ne, bne_iff_ne, bne_eq_false_iff_eq, ne_eq, List.length_map, List.length_cons, List.length_nil, List.length_append, Bool.not_eq_true', Bool.not_eq_false'] at hb; exfalso; omega) | (exfalso; simp [ba_beq, IntKind.wrap, IntKind.bits, IntKind.signed] at hb; done)) | (show W _ _ _ _ _) | (show ∀ k, WL _ _ _ k _ _ _) | (show ∀ k, DL _ _ _ k _ _ _ _) | (show RoundEnd _ _ _ _ _) | refine fR ?_ | (show _ ∧ Go.Am.Fin _ _ _ _ _ _))
    | (show ∀ k, WL _ _ _ k _ _ _; first | refine fun k => lSA fits (oW ?_ _) | refine fun k => lL fits (oW ?_ _) | refine fun k => lQ fits (oW ?_ _) | refine fun k => lX fits (oW ?_ _) | refine fun k => lXa fits (oW ?_ _) | refine fun k => lXs fits (oW ?_ _) | refine fun k => lK fits (oW ?_ _) | refine fun k => lKa fits (oW ?_ _) | refine fun k => lLk fits (oW ?_ _) | refine fun k => lUp fits (oW ?_ _) | refine fun k => lDel fits (oW ?_ _) | refine fun k => lSt fits (oW ?_ _) | refine fun k => lLU fits (oW ?_ _) | refine fun k => lM fits (oW ?_ _) | refine fun k => lA fits (oW ?_ _) | refine fun k => lA0 fits (oW ?_ _) | refine fun k => lA1 fits (oW ?_ _) | refine fun k => lMk fits (oW ?_ _) | refine fun k => lW fits (oW ?_ _)))
    exact ⟨by rw [hs]; rfl, rfl⟩
  | cons x r1 ih =>
    intro r2 d1 d2 j h1 h2 hj hj2 hr hs
    rcases r2 with _ | ⟨y, r2⟩
    · simp at hr
    have hlen : a.length = d1.length + (r1.length + 1) := by subst h1; simp
    have hx : x.ok := hok x (by subst h1; simp)
    obtain ⟨xu, ⟨xk, xd⟩, xr⟩ := x
    obtain ⟨yu, ⟨yk, yd⟩, yr⟩ := y
    refine wR (gI ?_)
    repeat' (first
    | ((first | refine gC fits mixed ?_ | refine gC0 fits mixed ?_ | refine gO fits mixed ?_ | refine gR fits mixed ?_); (conv => whnf); first | (refine ⟨fun hb => ?_, fun hb => ?_⟩ <;> try first | (simp only [Bool.not_true, Bool.not_false, Bool.true_eq_false, Bool.false_eq_true, reduceCtorEq] at hb; done) | exact Bool.noConfusion (hb.symm.trans (by assumption) : true = false) | exact Bool.noConfusion (hb.symm.trans (by assumption) : false = true) | (simp only [decide_eq_true_eq, decide_eq_false_iff_not, beq_iff_eq, beq_eq_false_iff_ne, bne_iff_ne, bne_eq_false_iff_eq, ne_eq, List.length_map, List.length_cons, List.length_nil, List.length_append, Bool.not_eq_true', Bool.not_eq_false'] at hb; exfalso; omega) | (exfalso; simp [ba_beq, IntKind.wrap, IntKind.bits, IntKind.signed] at hb; done)) | (show W _ _ _ _ _) | (show ∀ k, WL _ _ _ k _ _ _) | (show ∀ k, DL _ _ _ k _ _ _ _) | (show RoundEnd _ _ _ _ _) | refine fR ?_ | (show _ ∧ Go.Am.Fin _ _ _ _ _ _))
    | (show ∀ k, WL _ _ _ k _ _ _; first | refine fun k => lSA fits (oW ?_ _) | refine fun k => lL fits (oW ?_ _) | refine fun k => lQ fits (oW ?_ _) | refine fun k => lX fits (oW ?_ _) | refine fun k => lXa fits (oW ?_ _) | refine fun k => lXs fits (oW ?_ _) | refine fun k => lK fits (oW ?_ _) | refine fun k => lKa fits (oW ?_ _) | refine fun k => lLk fits (oW ?_ _) | refine fun k => lUp fits (oW ?_ _) | refine fun k => lDel fits (oW ?_ _) | refine fun k => lSt fits (oW ?_ _) | refine fun k => lLU fits (oW ?_ _) | refine fun k => lM fits (oW ?_ _) | refine fun k => lA fits (oW ?_ _) | refine fun k => lA0 fits (oW ?_ _) | refine fun k => lA1 fits (oW ?_ _) | refine fun k => lMk fits (oW ?_ _) | refine fun k => lW fits (oW ?_ _)))
    · refine ⟨?_, rfl⟩
      simp only [Bool.not_eq_true'] at hb
      rw [hs, pw, Part.eqb, hb]; rfl
    · rename_i hu
      refine ⟨?_, rfl⟩
      have hb' : (!(Act.eqb ⟨xk, xd⟩ ⟨yk, yd⟩)) = true := by
        simp only [Act.eqb]
        first
        | exact hb
        | (have h3 : (!(xk == yk && (xd == yd && true))) = true := hb; simpa using h3)
        | (simpa using hb)
      simp only [Bool.not_eq_true', Bool.not_eq_false'] at hb' hu
      rw [hs, pw, Part.eqb, hu, hb']; rfl
    · rename_i hu ha
      refine ⟨?_, rfl⟩
      have hne : xr.length ≠ yr.length := by simp at hb; omega
      rw [hs, pw, Part.eqb, pw_len hne]; simp; rfl
    rename_i hu ha
    have ha' : (Act.eqb ⟨xk, xd⟩ ⟨yk, yd⟩) = true := by
      simp only [Act.eqb]
      first
      | (have h3 : (!(xk == yk && xd == yd)) = false := ha; simpa using h3)
      | (have h3 : (!(xk == yk && (xd == yd && true))) = false := ha; simpa using h3)
      | (simpa using ha)
    simp only [Bool.not_eq_false'] at hu
    have hrl : xr.length = yr.length := by simp at hb; omega
    have hs2 : pw Part.eqb a b = (pw Rule.eqb xr yr && pw Part.eqb r1 r2) := by rw [hs, pw, Part.eqb, hu, ha']; rfl
    have hxl : xr.length < 2 ^ 43 := by have : xr.length * 64 ≤ 2 ^ 47 := hx.1; omega
    refine wLoop [0, 1, 5, 6, 7, 8] 2 (xr.length + 1) ?_
    refine (fun key => key xr yr [] [] _ rfl rfl rfl rfl (by omega) hs2 : (∀ (s1 s2 e1 e2 : List Rule) (i : Int), xr = e1 ++ s1 → yr = e2 ++ s2 → i = e1.length → i = e2.length → s1.length = s2.length → pw Part.eqb a b = (pw Rule.eqb s1 s2 && pw Part.eqb r1 r2) →
      WR2 _ _ _ _ _ (s1.length + 1) [(0, lst Part.row a), (1, lst Part.row b), (5, int .i64 j), (6, .one (.ptr 0 0)), (7, .one (.ptr 1 0)), (8, int .i64 i)] [.var (Part.cells ⟨xu, ⟨xk, xd⟩, xr⟩), .var (Part.cells ⟨yu, ⟨yk, yd⟩, yr⟩)]) → _) ?_
    clear hb
    intro s1
    induction s1 with
    | nil =>
      intro s2 e1 e2 i g1 g2 hi hi2 gr gs
      have glen : xr.length = e1.length := by subst g1; simp
      have : s2 = [] := List.length_eq_zero_iff.1 (by simpa using gr.symm)
      subst this
      refine wR (gI ?_)
      repeat' (first
    | ((first | refine gC fits mixed ?_ | refine gC0 fits mixed ?_ | refine gO fits mixed ?_ | refine gR fits mixed ?_); (conv => whnf); first | (refine ⟨fun hb => ?_, fun hb => ?_⟩ <;> try first | (simp only [Bool.not_true, Bool.not_false, Bool.true_eq_false, Bool.false_eq_true, reduceCtorEq] at hb; done) | exact Bool.noConfusion (hb.symm.trans (by assumption) : true = false) | exact Bool.noConfusion (hb.symm.trans (by assumption) : false = true) | (simp only [decide_eq_true_eq, decide_eq_false_iff_not, beq_iff_eq, beq_eq_false_iff_ne, bne_iff_ne, bne_eq_false_iff_eq, ne_eq, List.length_map, List.length_cons, List.length_nil, List.length_append, Bool.not_eq_true', Bool.not_eq_false'] at hb; exfalso; omega) | (exfalso; simp [ba_beq, IntKind.wrap, IntKind.bits, IntKind.signed] at hb; done)) | (show W _ _ _ _ _) | (show ∀ k, WL _ _ _ k _ _ _) | (show ∀ k, DL _ _ _ k _ _ _ _) | (show RoundEnd _ _ _ _ _) | refine fR ?_ | (show _ ∧ Go.Am.Fin _ _ _ _ _ _))
    | (show ∀ k, WL _ _ _ k _ _ _; first | refine fun k => lSA fits (oW ?_ _) | refine fun k => lL fits (oW ?_ _) | refine fun k => lQ fits (oW ?_ _) | refine fun k => lX fits (oW ?_ _) | refine fun k => lXa fits (oW ?_ _) | refine fun k => lXs fits (oW ?_ _) | refine fun k => lK fits (oW ?_ _) | refine fun k => lKa fits (oW ?_ _) | refine fun k => lLk fits (oW ?_ _) | refine fun k => lUp fits (oW ?_ _) | refine fun k => lDel fits (oW ?_ _) | refine fun k => lSt fits (oW ?_ _) | refine fun k => lLU fits (oW ?_ _) | refine fun k => lM fits (oW ?_ _) | refine fun k => lA fits (oW ?_ _) | refine fun k => lA0 fits (oW ?_ _) | refine fun k => lA1 fits (oW ?_ _) | refine fun k => lMk fits (oW ?_ _) | refine fun k => lW fits (oW ?_ _)))
      refine rE (ih r2 (d1 ++ [⟨xu, ⟨xk, xd⟩, xr⟩]) (d2 ++ [⟨yu, ⟨yk, yd⟩, yr⟩]) _ ?_ ?_ ?_ ?_ ?_ ?_)
      · simp [h1]
      · simp [h2]
      · rw [wrap_ok (by omega) (by omega)]; simp [hj]
      · rw [wrap_ok (by omega) (by omega)]; simp [hj2]
      · simpa using hr
      · rw [gs]; rfl
    | cons u s1 ih2 =>
      intro s2 e1 e2 i g1 g2 hi hi2 gr gs
      rcases s2 with _ | ⟨v, s2⟩
      · simp at gr
      have glen : xr.length = e1.length + (s1.length + 1) := by subst g1; simp
      have hu' : u.ok := hx.2 u (by subst g1; simp)
      obtain ⟨uc, up, uq⟩ := u
      obtain ⟨vc, vp, vq⟩ := v
      have hup : up.length < 2 ^ 60 := by have : up.length * 16 ≤ 2 ^ 47 := hu'.1; omega
      have huq : uq.length < 2 ^ 43 := by have : uq.length * 72 ≤ 2 ^ 47 := hu'.2.1; omega
      refine wR (gI ?_)
      repeat' (first
    | ((first | refine gC fits mixed ?_ | refine gC0 fits mixed ?_ | refine gO fits mixed ?_ | refine gR fits mixed ?_); (conv => whnf); first | (refine ⟨fun hb => ?_, fun hb => ?_⟩ <;> try first | (simp only [Bool.not_true, Bool.not_false, Bool.true_eq_false, Bool.false_eq_true, reduceCtorEq] at hb; done) | exact Bool.noConfusion (hb.symm.trans (by assumption) : true = false) | exact Bool.noConfusion (hb.symm.trans (by assumption) : false = true) | (simp only [decide_eq_true_eq, decide_eq_false_iff_not, beq_iff_eq, beq_eq_false_iff_ne, bne_iff_ne, bne_eq_false_iff_eq, ne_eq, List.length_map, List.length_cons, List.length_nil, List.length_append, Bool.not_eq_true', Bool.not_eq_false'] at hb; exfalso; omega) | (exfalso; simp [ba_beq, IntKind.wrap, IntKind.bits, IntKind.signed] at hb; done)) | (show W _ _ _ _ _) | (show ∀ k, WL _ _ _ k _ _ _) | (show ∀ k, DL _ _ _ k _ _ _ _) | (show RoundEnd _ _ _ _ _) | refine fR ?_ | (show _ ∧ Go.Am.Fin _ _ _ _ _ _))
    | (show ∀ k, WL _ _ _ k _ _ _; first | (refine fun k => lCB ((sameR up vp hup)) (fun hsm => oW ?_ _) (fun hsm => oW ?_ _)) | refine fun k => lSA fits (oW ?_ _) | refine fun k => lL fits (oW ?_ _) | refine fun k => lQ fits (oW ?_ _) | refine fun k => lX fits (oW ?_ _) | refine fun k => lXa fits (oW ?_ _) | refine fun k => lXs fits (oW ?_ _) | refine fun k => lK fits (oW ?_ _) | refine fun k => lKa fits (oW ?_ _) | refine fun k => lLk fits (oW ?_ _) | refine fun k => lUp fits (oW ?_ _) | refine fun k => lDel fits (oW ?_ _) | refine fun k => lSt fits (oW ?_ _) | refine fun k => lLU fits (oW ?_ _) | refine fun k => lM fits (oW ?_ _) | refine fun k => lA fits (oW ?_ _) | refine fun k => lA0 fits (oW ?_ _) | refine fun k => lA1 fits (oW ?_ _) | refine fun k => lMk fits (oW ?_ _) | refine fun k => lW fits (oW ?_ _)))
      · refine ⟨?_, rfl⟩
        simp only [Bool.not_eq_true'] at hb
        rw [gs, pw, Rule.eqb, hb]; rfl
      · rename_i hc
        refine ⟨?_, rfl⟩
        simp only [Bool.not_eq_false'] at hc
        have hne : uq.length ≠ vq.length := by simp at hb; omega
        rw [gs, pw, Rule.eqb, Ex.eqbs_len hne]; simp; rfl
      · have hc : (uc == vc) = true := by
          have h : (!(uc == vc)) = false := by assumption
          simpa using h
        have hql : uq.length = vq.length := by simp at hb; omega
        have gs2 : pw Part.eqb a b = (Ex.eqbs uq vq && (pw Rule.eqb s1 s2 && pw Part.eqb r1 r2)) := by rw [gs, pw, Rule.eqb, hc, hsm, Bool.true_and, Bool.true_and, Bool.and_assoc]
        refine wLoop [0, 1, 5, 6, 7, 8, 9, 10, 11] 4 (uq.length + 1) ?_
        refine (fun key => key uq vq [] [] _ rfl rfl rfl rfl (by omega) gs2 : (∀ (t1 t2 f1 f2 : List Ex) (n : Int), uq = f1 ++ t1 → vq = f2 ++ t2 → n = f1.length → n = f2.length → t1.length = t2.length → pw Part.eqb a b = (Ex.eqbs t1 t2 && (pw Rule.eqb s1 s2 && pw Part.eqb r1 r2)) →
          WR2 _ _ _ _ _ (t1.length + 1) [(0, lst Part.row a), (1, lst Part.row b), (5, int .i64 j), (6, .one (.ptr 0 0)), (7, .one (.ptr 1 0)), (8, int .i64 i), (9, .one (.ptr 2 0)), (10, .one (.ptr 3 0)), (11, int .i64 n)]
            [.var (Part.cells ⟨xu, ⟨xk, xd⟩, xr⟩), .var (Part.cells ⟨yu, ⟨yk, yd⟩, yr⟩), .var (Rule.cells ⟨uc, up, uq⟩), .var (Rule.cells ⟨vc, vp, vq⟩)]) → _) ?_
        clear hb
        intro t1
        induction t1 with
        | nil =>
          intro t2 f1 f2 n k1 k2 hn hn2 kr ks
          have klen : uq.length = f1.length := by subst k1; simp
          have : t2 = [] := List.length_eq_zero_iff.1 (by simpa using kr.symm)
          subst this
          refine wR (gI ?_)
          repeat' (first
    | ((first | refine gC fits mixed ?_ | refine gC0 fits mixed ?_ | refine gO fits mixed ?_ | refine gR fits mixed ?_); (conv => whnf); first | (refine ⟨fun hb => ?_, fun hb => ?_⟩ <;> try first | (simp only [Bool.not_true, Bool.not_false, Bool.true_eq_false, Bool.false_eq_true, reduceCtorEq] at hb; done) | exact Bool.noConfusion (hb.symm.trans (by assumption) : true = false) | exact Bool.noConfusion (hb.symm.trans (by assumption) : false = true) | (simp only [decide_eq_true_eq, decide_eq_false_iff_not, beq_iff_eq, beq_eq_false_iff_ne, bne_iff_ne, bne_eq_false_iff_eq, ne_eq, List.length_map, List.length_cons, List.length_nil, List.length_append, Bool.not_eq_true', Bool.not_eq_false'] at hb; exfalso; omega) | (exfalso; simp [ba_beq, IntKind.wrap, IntKind.bits, IntKind.signed] at hb; done)) | (show W _ _ _ _ _) | (show ∀ k, WL _ _ _ k _ _ _) | (show ∀ k, DL _ _ _ k _ _ _ _) | (show RoundEnd _ _ _ _ _) | refine fR ?_ | (show _ ∧ Go.Am.Fin _ _ _ _ _ _))
    | (show ∀ k, WL _ _ _ k _ _ _; first | refine fun k => lSA fits (oW ?_ _) | refine fun k => lL fits (oW ?_ _) | refine fun k => lQ fits (oW ?_ _) | refine fun k => lX fits (oW ?_ _) | refine fun k => lXa fits (oW ?_ _) | refine fun k => lXs fits (oW ?_ _) | refine fun k => lK fits (oW ?_ _) | refine fun k => lKa fits (oW ?_ _) | refine fun k => lLk fits (oW ?_ _) | refine fun k => lUp fits (oW ?_ _) | refine fun k => lDel fits (oW ?_ _) | refine fun k => lSt fits (oW ?_ _) | refine fun k => lLU fits (oW ?_ _) | refine fun k => lM fits (oW ?_ _) | refine fun k => lA fits (oW ?_ _) | refine fun k => lA0 fits (oW ?_ _) | refine fun k => lA1 fits (oW ?_ _) | refine fun k => lMk fits (oW ?_ _) | refine fun k => lW fits (oW ?_ _)))
          refine rE (ih2 s2 (e1 ++ [⟨uc, up, uq⟩]) (e2 ++ [⟨vc, vp, vq⟩]) _ ?_ ?_ ?_ ?_ ?_ ?_)
          · simp [g1]
          · simp [g2]
          · rw [wrap_ok (by omega) (by omega)]; simp [hi]
          · rw [wrap_ok (by omega) (by omega)]; simp [hi2]
          · simpa using gr
          · rw [ks]; rfl
        | cons w t1 ih3 =>
          intro t2 f1 f2 n k1 k2 hn hn2 kr ks
          rcases t2 with _ | ⟨z, t2⟩
          · simp at kr
          have klen : uq.length = f1.length + (t1.length + 1) := by subst k1; simp
          have hw : w.ok := Ex.oks_mem hu'.2.2 (by subst k1; simp)
          have hse := sameE _ w z (Nat.lt_succ_self _) hw
          obtain ⟨wk, wo, wn, wu, wl⟩ := w
          obtain ⟨zk, zo, zn, zu, zl⟩ := z
          refine wR (gI ?_)
          repeat' (first
    | ((first | refine gC fits mixed ?_ | refine gC0 fits mixed ?_ | refine gO fits mixed ?_ | refine gR fits mixed ?_); (conv => whnf); first | (refine ⟨fun hb => ?_, fun hb => ?_⟩ <;> try first | (simp only [Bool.not_true, Bool.not_false, Bool.true_eq_false, Bool.false_eq_true, reduceCtorEq] at hb; done) | exact Bool.noConfusion (hb.symm.trans (by assumption) : true = false) | exact Bool.noConfusion (hb.symm.trans (by assumption) : false = true) | (simp only [decide_eq_true_eq, decide_eq_false_iff_not, beq_iff_eq, beq_eq_false_iff_ne, bne_iff_ne, bne_eq_false_iff_eq, ne_eq, List.length_map, List.length_cons, List.length_nil, List.length_append, Bool.not_eq_true', Bool.not_eq_false'] at hb; exfalso; omega) | (exfalso; simp [ba_beq, IntKind.wrap, IntKind.bits, IntKind.signed] at hb; done)) | (show W _ _ _ _ _) | (show ∀ k, WL _ _ _ k _ _ _) | (show ∀ k, DL _ _ _ k _ _ _ _) | (show RoundEnd _ _ _ _ _) | refine fR ?_ | (show _ ∧ Go.Am.Fin _ _ _ _ _ _))
    | (show ∀ k, WL _ _ _ k _ _ _; first | (refine fun k => lCB (hse) (fun hx2 => oW ?_ _) (fun hx2 => oW ?_ _)) | refine fun k => lSA fits (oW ?_ _) | refine fun k => lL fits (oW ?_ _) | refine fun k => lQ fits (oW ?_ _) | refine fun k => lX fits (oW ?_ _) | refine fun k => lXa fits (oW ?_ _) | refine fun k => lXs fits (oW ?_ _) | refine fun k => lK fits (oW ?_ _) | refine fun k => lKa fits (oW ?_ _) | refine fun k => lLk fits (oW ?_ _) | refine fun k => lUp fits (oW ?_ _) | refine fun k => lDel fits (oW ?_ _) | refine fun k => lSt fits (oW ?_ _) | refine fun k => lLU fits (oW ?_ _) | refine fun k => lM fits (oW ?_ _) | refine fun k => lA fits (oW ?_ _) | refine fun k => lA0 fits (oW ?_ _) | refine fun k => lA1 fits (oW ?_ _) | refine fun k => lMk fits (oW ?_ _) | refine fun k => lW fits (oW ?_ _))
    | (show ∀ k, DL _ _ _ k _ _ _ _; first | (refine fun k => dCB (hse) (fun hx2 => oD ?_ _) (fun hx2 => oD ?_ _)) | refine fun k => dSA fits (oD ?_ _) | refine fun k => dL fits (oD ?_ _) | refine fun k => dQ fits (oD ?_ _) | refine fun k => dX fits (oD ?_ _) | refine fun k => dXs fits (oD ?_ _) | refine fun k => dK fits (oD ?_ _) | refine fun k => dKa fits (oD ?_ _) | refine fun k => dLk fits (oD ?_ _) | refine fun k => dUp fits (oD ?_ _) | refine fun k => dA fits (oD ?_ _) | refine fun k => dA0 fits (oD ?_ _) | refine fun k => dSt fits (oD ?_ _) | refine fun k => dLU fits (oD ?_ _) | refine fun k => dM fits (oD ?_ _) | refine fun k => dN fits (oD ?_ _) | refine fun k => dW fits (oD ?_ _)))
          · refine rE (ih3 t2 (f1 ++ [Ex.mk wk wo wn wu wl]) (f2 ++ [Ex.mk zk zo zn zu zl]) _ ?_ ?_ ?_ ?_ ?_ ?_)
            · simp [k1]
            · simp [k2]
            · rw [wrap_ok (by omega) (by omega)]; simp [hn]
            · rw [wrap_ok (by omega) (by omega)]; simp [hn2]
            · simpa using kr
            · rw [ks, Ex.eqbs, hx2]; rfl
          · refine ⟨?_, rfl⟩
            rw [ks, Ex.eqbs, hx2]; rfl
      · have hc : (uc == vc) = true := by
          have h : (!(uc == vc)) = false := by assumption
          simpa using h
        refine ⟨?_, rfl⟩
        rw [gs, pw, Rule.eqb, hc, hsm]; rfl
end Go.Proofs.Ytngkoancdmimkaa
