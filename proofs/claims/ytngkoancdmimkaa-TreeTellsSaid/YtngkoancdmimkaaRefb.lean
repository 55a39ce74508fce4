/- A part of a proof: functions of the program, walked over the abstract machine. -/
import Derived.Test.YtngkoancdmimkaaRefa
set_option linter.unusedVariables false
set_option linter.unusedSimpArgs false
namespace Go.Proofs.Ytngkoancdmimkaa
open Go Go.Am Go.Proofs
attribute [local irreducible] W WL DL WO RoundEnd
set_option maxRecDepth 10000
set_option maxHeartbeats 4000000
theorem numberD : ∀ (n : Nat) (e : Ex), e.size < n → e.nok → Comp Try.prog 14 [.agg (e.row.map .d)] (bool (numF n e)) := by
  intro n
  induction n with
  | zero => intro e h; omega
  | succ n IH =>
  intro e hs hn
  have c1 := primD e (by obtain ⟨_, _, nm, _, _⟩ := e; exact hn.1)
  generalize hfb : numF (n + 1) e = fb
  rw [numF] at hfb
  obtain ⟨kd, o, nm, u, l⟩ := e
  by_cases h8 : kd = 8
  · subst h8
    rw [if_pos (show (Ex.mk 8 o nm u l).kind = 8 from rfl)] at hfb
    rcases l with _ | ⟨x, _ | ⟨y, _ | ⟨z, l⟩⟩⟩
    · have hf : fb = false := by rw [← hfb]; rfl
      refine Spec.body (C := cx [] 41) fits (fn := Try.f14) Try.func14 rfl (by decide) (by decide) (gI ?_)
      repeat' (first
    | ((first | refine gC fits mixed ?_ | refine gC0 fits mixed ?_ | refine gO fits mixed ?_ | refine gR fits mixed ?_); (conv => whnf); first | (refine ⟨fun hb => ?_, fun hb => ?_⟩ <;> try first | (simp only [Bool.not_true, Bool.not_false, Bool.true_eq_false, Bool.false_eq_true, reduceCtorEq] at hb; done) | exact Bool.noConfusion (hb.symm.trans (by assumption) : true = false) | exact Bool.noConfusion (hb.symm.trans (by assumption) : false = true) | (simp only [decide_eq_true_eq, decide_eq_false_iff_not, beq_iff_eq, beq_eq_false_iff_ne, bne_iff_ne, bne_eq_false_iff_eq, ne_eq, List.length_map, List.length_cons, List.length_nil, List.length_append, Bool.not_eq_true', Bool.not_eq_false'] at hb; exfalso; omega) | (exfalso; simp [ba_beq, IntKind.wrap, IntKind.bits, IntKind.signed] at hb; done)) | (show W _ _ _ _ _) | (show ∀ k, WL _ _ _ k _ _ _) | (show ∀ k, DL _ _ _ k _ _ _ _) | (show RoundEnd _ _ _ _ _) | refine fR ?_ | (show _ ∧ Go.Am.Fin _ _ _ _ _ _))
    | (show ∀ k, WL _ _ _ k _ _ _; first | refine fun k => lSA fits (oW ?_ _) | refine fun k => lL fits (oW ?_ _) | refine fun k => lQ fits (oW ?_ _) | refine fun k => lX fits (oW ?_ _) | refine fun k => lXa fits (oW ?_ _) | refine fun k => lXs fits (oW ?_ _) | refine fun k => lK fits (oW ?_ _) | refine fun k => lKa fits (oW ?_ _) | refine fun k => lLk fits (oW ?_ _) | refine fun k => lUp fits (oW ?_ _) | refine fun k => lDel fits (oW ?_ _) | refine fun k => lSt fits (oW ?_ _) | refine fun k => lLU fits (oW ?_ _) | refine fun k => lM fits (oW ?_ _) | refine fun k => lA fits (oW ?_ _) | refine fun k => lA0 fits (oW ?_ _) | refine fun k => lA1 fits (oW ?_ _) | refine fun k => lMk fits (oW ?_ _) | refine fun k => lW fits (oW ?_ _)))
      all_goals exact ⟨by rw [hf]; rfl, rfl⟩
    · have hf : fb = false := by rw [← hfb]; rfl
      refine Spec.body (C := cx [] 41) fits (fn := Try.f14) Try.func14 rfl (by decide) (by decide) (gI ?_)
      repeat' (first
    | ((first | refine gC fits mixed ?_ | refine gC0 fits mixed ?_ | refine gO fits mixed ?_ | refine gR fits mixed ?_); (conv => whnf); first | (refine ⟨fun hb => ?_, fun hb => ?_⟩ <;> try first | (simp only [Bool.not_true, Bool.not_false, Bool.true_eq_false, Bool.false_eq_true, reduceCtorEq] at hb; done) | exact Bool.noConfusion (hb.symm.trans (by assumption) : true = false) | exact Bool.noConfusion (hb.symm.trans (by assumption) : false = true) | (simp only [decide_eq_true_eq, decide_eq_false_iff_not, beq_iff_eq, beq_eq_false_iff_ne, bne_iff_ne, bne_eq_false_iff_eq, ne_eq, List.length_map, List.length_cons, List.length_nil, List.length_append, Bool.not_eq_true', Bool.not_eq_false'] at hb; exfalso; omega) | (exfalso; simp [ba_beq, IntKind.wrap, IntKind.bits, IntKind.signed] at hb; done)) | (show W _ _ _ _ _) | (show ∀ k, WL _ _ _ k _ _ _) | (show ∀ k, DL _ _ _ k _ _ _ _) | (show RoundEnd _ _ _ _ _) | refine fR ?_ | (show _ ∧ Go.Am.Fin _ _ _ _ _ _))
    | (show ∀ k, WL _ _ _ k _ _ _; first | refine fun k => lSA fits (oW ?_ _) | refine fun k => lL fits (oW ?_ _) | refine fun k => lQ fits (oW ?_ _) | refine fun k => lX fits (oW ?_ _) | refine fun k => lXa fits (oW ?_ _) | refine fun k => lXs fits (oW ?_ _) | refine fun k => lK fits (oW ?_ _) | refine fun k => lKa fits (oW ?_ _) | refine fun k => lLk fits (oW ?_ _) | refine fun k => lUp fits (oW ?_ _) | refine fun k => lDel fits (oW ?_ _) | refine fun k => lSt fits (oW ?_ _) | refine fun k => lLU fits (oW ?_ _) | refine fun k => lM fits (oW ?_ _) | refine fun k => lA fits (oW ?_ _) | refine fun k => lA0 fits (oW ?_ _) | refine fun k => lA1 fits (oW ?_ _) | refine fun k => lMk fits (oW ?_ _) | refine fun k => lW fits (oW ?_ _)))
      all_goals exact ⟨by rw [hf]; rfl, rfl⟩
    · have c2 := IH x (by simp only [Ex.size, Ex.sizes] at hs; omega) hn.2.1
      have c3 := primD y (by have := hn.2; obtain ⟨_, _, ym, _, _⟩ := y; exact this.2.1.1)
      have hw : whatF (.mk 8 o nm u [x, y]) = (if (o == (⟨#[]⟩ : ByteArray) && u == 0) && nm == (⟨#[]⟩ : ByteArray) then .pr x y else .none) := by
        simp [whatF, twoF]
      rw [hw] at hfb
      obtain ⟨k1, o1, n1, u1, l1⟩ := x
      obtain ⟨k2, o2, n2, u2, l2⟩ := y
      refine Spec.body (C := cx [] 41) fits (fn := Try.f14) Try.func14 rfl (by decide) (by decide) (gI ?_)
      repeat' (first
    | ((first | refine gC fits mixed ?_ | refine gC0 fits mixed ?_ | refine gO fits mixed ?_ | refine gR fits mixed ?_); (conv => whnf); first | (refine ⟨fun hb => ?_, fun hb => ?_⟩ <;> try first | (simp only [Bool.not_true, Bool.not_false, Bool.true_eq_false, Bool.false_eq_true, reduceCtorEq] at hb; done) | exact Bool.noConfusion (hb.symm.trans (by assumption) : true = false) | exact Bool.noConfusion (hb.symm.trans (by assumption) : false = true) | (simp only [decide_eq_true_eq, decide_eq_false_iff_not, beq_iff_eq, beq_eq_false_iff_ne, bne_iff_ne, bne_eq_false_iff_eq, ne_eq, List.length_map, List.length_cons, List.length_nil, List.length_append, Bool.not_eq_true', Bool.not_eq_false'] at hb; exfalso; omega) | (exfalso; simp [ba_beq, IntKind.wrap, IntKind.bits, IntKind.signed] at hb; done)) | (show W _ _ _ _ _) | (show ∀ k, WL _ _ _ k _ _ _) | (show ∀ k, DL _ _ _ k _ _ _ _) | (show RoundEnd _ _ _ _ _) | refine fR ?_ | (show _ ∧ Go.Am.Fin _ _ _ _ _ _))
    | (show ∀ k, WL _ _ _ k _ _ _; first | (refine fun k => lCB (c2) (fun h2 => oW ?_ _) (fun h2 => oW ?_ _)) | (refine fun k => lCB (c3) (fun h3 => oW ?_ _) (fun h3 => oW ?_ _)) | refine fun k => lSA fits (oW ?_ _) | refine fun k => lL fits (oW ?_ _) | refine fun k => lQ fits (oW ?_ _) | refine fun k => lX fits (oW ?_ _) | refine fun k => lXa fits (oW ?_ _) | refine fun k => lXs fits (oW ?_ _) | refine fun k => lK fits (oW ?_ _) | refine fun k => lKa fits (oW ?_ _) | refine fun k => lLk fits (oW ?_ _) | refine fun k => lUp fits (oW ?_ _) | refine fun k => lDel fits (oW ?_ _) | refine fun k => lSt fits (oW ?_ _) | refine fun k => lLU fits (oW ?_ _) | refine fun k => lM fits (oW ?_ _) | refine fun k => lA fits (oW ?_ _) | refine fun k => lA0 fits (oW ?_ _) | refine fun k => lA1 fits (oW ?_ _) | refine fun k => lMk fits (oW ?_ _) | refine fun k => lW fits (oW ?_ _)))
      · rw [if_pos (by simp only [show (o == (⟨#[]⟩ : ByteArray)) = true by assumption, show (nm == (⟨#[]⟩ : ByteArray)) = true by assumption, show (u == 0) = true by assumption]; rfl)] at hfb
        exact ⟨by rw [← hfb]; simp only [h2, h3]; rfl, rfl⟩
      · rw [if_pos (by simp only [show (o == (⟨#[]⟩ : ByteArray)) = true by assumption, show (nm == (⟨#[]⟩ : ByteArray)) = true by assumption, show (u == 0) = true by assumption]; rfl)] at hfb
        exact ⟨by rw [← hfb]; simp only [h2, h3]; rfl, rfl⟩
      · rw [if_pos (by simp only [show (o == (⟨#[]⟩ : ByteArray)) = true by assumption, show (nm == (⟨#[]⟩ : ByteArray)) = true by assumption, show (u == 0) = true by assumption]; rfl)] at hfb
        exact ⟨by rw [← hfb]; simp only [h2, Bool.and_false]; rfl, rfl⟩
      · exfalso; simp [Ex.rows] at hb
      · rw [if_neg (by simp [hb])] at hfb
        exact ⟨by rw [← hfb]; rfl, rfl⟩
      · rw [if_neg (by simp [hb])] at hfb
        exact ⟨by rw [← hfb]; rfl, rfl⟩
      · rw [if_neg (by simp [hb])] at hfb
        exact ⟨by rw [← hfb]; rfl, rfl⟩
    · have hf : fb = false := by rw [← hfb]; rfl
      have el : Ex.rows (x :: y :: z :: l) = (x :: y :: z :: l).map Ex.row := Ex.rows_eq _
      simp only [Ex.row, el, List.map_cons, List.map_nil]
      refine Spec.body (C := cx [] 41) fits (fn := Try.f14) Try.func14 rfl (by decide) (by decide) (gI ?_)
      repeat' (first
    | ((first | refine gC fits mixed ?_ | refine gC0 fits mixed ?_ | refine gO fits mixed ?_ | refine gR fits mixed ?_); (conv => whnf); first | (refine ⟨fun hb => ?_, fun hb => ?_⟩ <;> try first | (simp only [Bool.not_true, Bool.not_false, Bool.true_eq_false, Bool.false_eq_true, reduceCtorEq] at hb; done) | exact Bool.noConfusion (hb.symm.trans (by assumption) : true = false) | exact Bool.noConfusion (hb.symm.trans (by assumption) : false = true) | (simp only [decide_eq_true_eq, decide_eq_false_iff_not, beq_iff_eq, beq_eq_false_iff_ne, bne_iff_ne, bne_eq_false_iff_eq, ne_eq, List.length_map, List.length_cons, List.length_nil, List.length_append, Bool.not_eq_true', Bool.not_eq_false'] at hb; exfalso; omega) | (exfalso; simp [ba_beq, IntKind.wrap, IntKind.bits, IntKind.signed] at hb; done)) | (show W _ _ _ _ _) | (show ∀ k, WL _ _ _ k _ _ _) | (show ∀ k, DL _ _ _ k _ _ _ _) | (show RoundEnd _ _ _ _ _) | refine fR ?_ | (show _ ∧ Go.Am.Fin _ _ _ _ _ _))
    | (show ∀ k, WL _ _ _ k _ _ _; first | refine fun k => lSA fits (oW ?_ _) | refine fun k => lL fits (oW ?_ _) | refine fun k => lQ fits (oW ?_ _) | refine fun k => lX fits (oW ?_ _) | refine fun k => lXa fits (oW ?_ _) | refine fun k => lXs fits (oW ?_ _) | refine fun k => lK fits (oW ?_ _) | refine fun k => lKa fits (oW ?_ _) | refine fun k => lLk fits (oW ?_ _) | refine fun k => lUp fits (oW ?_ _) | refine fun k => lDel fits (oW ?_ _) | refine fun k => lSt fits (oW ?_ _) | refine fun k => lLU fits (oW ?_ _) | refine fun k => lM fits (oW ?_ _) | refine fun k => lA fits (oW ?_ _) | refine fun k => lA0 fits (oW ?_ _) | refine fun k => lA1 fits (oW ?_ _) | refine fun k => lMk fits (oW ?_ _) | refine fun k => lW fits (oW ?_ _)))
      all_goals exact ⟨by rw [hf]; rfl, rfl⟩
  · have b8 : (!(kd == 8)) = true := by simp [h8]
    rw [if_neg (show ¬ (Ex.mk kd o nm u l).kind = 8 from h8)] at hfb
    refine Spec.body (C := cx [] 41) fits (fn := Try.f14) Try.func14 rfl (by decide) (by decide) (gI ?_)
    repeat' (first
    | ((first | refine gC fits mixed ?_ | refine gC0 fits mixed ?_ | refine gO fits mixed ?_ | refine gR fits mixed ?_); (conv => whnf); first | (refine ⟨fun hb => ?_, fun hb => ?_⟩ <;> try first | (simp only [Bool.not_true, Bool.not_false, Bool.true_eq_false, Bool.false_eq_true, reduceCtorEq] at hb; done) | exact Bool.noConfusion (hb.symm.trans (by assumption) : true = false) | exact Bool.noConfusion (hb.symm.trans (by assumption) : false = true) | (simp only [decide_eq_true_eq, decide_eq_false_iff_not, beq_iff_eq, beq_eq_false_iff_ne, bne_iff_ne, bne_eq_false_iff_eq, ne_eq, List.length_map, List.length_cons, List.length_nil, List.length_append, Bool.not_eq_true', Bool.not_eq_false'] at hb; exfalso; omega) | (exfalso; simp [ba_beq, IntKind.wrap, IntKind.bits, IntKind.signed] at hb; done)) | (show W _ _ _ _ _) | (show ∀ k, WL _ _ _ k _ _ _) | (show ∀ k, DL _ _ _ k _ _ _ _) | (show RoundEnd _ _ _ _ _) | refine fR ?_ | (show _ ∧ Go.Am.Fin _ _ _ _ _ _))
    | (show ∀ k, WL _ _ _ k _ _ _; first | (refine fun k => lCB (c1) (fun h1 => oW ?_ _) (fun h1 => oW ?_ _)) | refine fun k => lSA fits (oW ?_ _) | refine fun k => lL fits (oW ?_ _) | refine fun k => lQ fits (oW ?_ _) | refine fun k => lX fits (oW ?_ _) | refine fun k => lXa fits (oW ?_ _) | refine fun k => lXs fits (oW ?_ _) | refine fun k => lK fits (oW ?_ _) | refine fun k => lKa fits (oW ?_ _) | refine fun k => lLk fits (oW ?_ _) | refine fun k => lUp fits (oW ?_ _) | refine fun k => lDel fits (oW ?_ _) | refine fun k => lSt fits (oW ?_ _) | refine fun k => lLU fits (oW ?_ _) | refine fun k => lM fits (oW ?_ _) | refine fun k => lA fits (oW ?_ _) | refine fun k => lA0 fits (oW ?_ _) | refine fun k => lA1 fits (oW ?_ _) | refine fun k => lMk fits (oW ?_ _) | refine fun k => lW fits (oW ?_ _)))
    all_goals exact ⟨by rw [← hfb, h1]; rfl, rfl⟩
def opF (s : ByteArray) : Int :=
  if s = ⟨#[61, 61]⟩ then 1 else if s = ⟨#[33, 61]⟩ then 2 else if s = ⟨#[60]⟩ then 3 else if s = ⟨#[60, 61]⟩ then 4 else if s = ⟨#[62]⟩ then 5 else if s = ⟨#[62, 61]⟩ then 6 else 0
theorem opD (s : ByteArray) : Comp Try.prog 38 [str s] (int .i64 (opF s)) := by
  by_cases h1 : s = ⟨#[61, 61]⟩
  · subst h1; refine Spec.body (C := cx [] 16) fits (fn := Try.f38) Try.func38 rfl (by decide) (by decide) (gI ?_)
    repeat' (first
    | ((first | refine gC fits mixed ?_ | refine gC0 fits mixed ?_ | refine gO fits mixed ?_ | refine gR fits mixed ?_); (conv => whnf); first | (refine ⟨fun hb => ?_, fun hb => ?_⟩ <;> try first | (simp only [Bool.not_true, Bool.not_false, Bool.true_eq_false, Bool.false_eq_true, reduceCtorEq] at hb; done) | exact Bool.noConfusion (hb.symm.trans (by assumption) : true = false) | exact Bool.noConfusion (hb.symm.trans (by assumption) : false = true) | (simp only [decide_eq_true_eq, decide_eq_false_iff_not, beq_iff_eq, beq_eq_false_iff_ne, bne_iff_ne, bne_eq_false_iff_eq, ne_eq, List.length_map, List.length_cons, List.length_nil, List.length_append, Bool.not_eq_true', Bool.not_eq_false'] at hb; exfalso; omega) | (exfalso; simp [ba_beq, IntKind.wrap, IntKind.bits, IntKind.signed] at hb; done)) | (show W _ _ _ _ _) | (show ∀ k, WL _ _ _ k _ _ _) | (show ∀ k, DL _ _ _ k _ _ _ _) | (show RoundEnd _ _ _ _ _) | refine fR ?_ | (show _ ∧ Go.Am.Fin _ _ _ _ _ _))
    | (show ∀ k, WL _ _ _ k _ _ _; first | refine fun k => lSA fits (oW ?_ _) | refine fun k => lL fits (oW ?_ _) | refine fun k => lQ fits (oW ?_ _) | refine fun k => lX fits (oW ?_ _) | refine fun k => lXa fits (oW ?_ _) | refine fun k => lXs fits (oW ?_ _) | refine fun k => lK fits (oW ?_ _) | refine fun k => lKa fits (oW ?_ _) | refine fun k => lLk fits (oW ?_ _) | refine fun k => lUp fits (oW ?_ _) | refine fun k => lDel fits (oW ?_ _) | refine fun k => lSt fits (oW ?_ _) | refine fun k => lLU fits (oW ?_ _) | refine fun k => lM fits (oW ?_ _) | refine fun k => lA fits (oW ?_ _) | refine fun k => lA0 fits (oW ?_ _) | refine fun k => lA1 fits (oW ?_ _) | refine fun k => lMk fits (oW ?_ _) | refine fun k => lW fits (oW ?_ _)))
    exact ⟨rfl, rfl⟩
  by_cases h2 : s = ⟨#[33, 61]⟩
  · subst h2; refine Spec.body (C := cx [] 16) fits (fn := Try.f38) Try.func38 rfl (by decide) (by decide) (gI ?_)
    repeat' (first
    | ((first | refine gC fits mixed ?_ | refine gC0 fits mixed ?_ | refine gO fits mixed ?_ | refine gR fits mixed ?_); (conv => whnf); first | (refine ⟨fun hb => ?_, fun hb => ?_⟩ <;> try first | (simp only [Bool.not_true, Bool.not_false, Bool.true_eq_false, Bool.false_eq_true, reduceCtorEq] at hb; done) | exact Bool.noConfusion (hb.symm.trans (by assumption) : true = false) | exact Bool.noConfusion (hb.symm.trans (by assumption) : false = true) | (simp only [decide_eq_true_eq, decide_eq_false_iff_not, beq_iff_eq, beq_eq_false_iff_ne, bne_iff_ne, bne_eq_false_iff_eq, ne_eq, List.length_map, List.length_cons, List.length_nil, List.length_append, Bool.not_eq_true', Bool.not_eq_false'] at hb; exfalso; omega) | (exfalso; simp [ba_beq, IntKind.wrap, IntKind.bits, IntKind.signed] at hb; done)) | (show W _ _ _ _ _) | (show ∀ k, WL _ _ _ k _ _ _) | (show ∀ k, DL _ _ _ k _ _ _ _) | (show RoundEnd _ _ _ _ _) | refine fR ?_ | (show _ ∧ Go.Am.Fin _ _ _ _ _ _))
    | (show ∀ k, WL _ _ _ k _ _ _; first | refine fun k => lSA fits (oW ?_ _) | refine fun k => lL fits (oW ?_ _) | refine fun k => lQ fits (oW ?_ _) | refine fun k => lX fits (oW ?_ _) | refine fun k => lXa fits (oW ?_ _) | refine fun k => lXs fits (oW ?_ _) | refine fun k => lK fits (oW ?_ _) | refine fun k => lKa fits (oW ?_ _) | refine fun k => lLk fits (oW ?_ _) | refine fun k => lUp fits (oW ?_ _) | refine fun k => lDel fits (oW ?_ _) | refine fun k => lSt fits (oW ?_ _) | refine fun k => lLU fits (oW ?_ _) | refine fun k => lM fits (oW ?_ _) | refine fun k => lA fits (oW ?_ _) | refine fun k => lA0 fits (oW ?_ _) | refine fun k => lA1 fits (oW ?_ _) | refine fun k => lMk fits (oW ?_ _) | refine fun k => lW fits (oW ?_ _)))
    exact ⟨rfl, rfl⟩
  by_cases h3 : s = ⟨#[60]⟩
  · subst h3; refine Spec.body (C := cx [] 16) fits (fn := Try.f38) Try.func38 rfl (by decide) (by decide) (gI ?_)
    repeat' (first
    | ((first | refine gC fits mixed ?_ | refine gC0 fits mixed ?_ | refine gO fits mixed ?_ | refine gR fits mixed ?_); (conv => whnf); first | (refine ⟨fun hb => ?_, fun hb => ?_⟩ <;> try first | (simp only [Bool.not_true, Bool.not_false, Bool.true_eq_false, Bool.false_eq_true, reduceCtorEq] at hb; done) | exact Bool.noConfusion (hb.symm.trans (by assumption) : true = false) | exact Bool.noConfusion (hb.symm.trans (by assumption) : false = true) | (simp only [decide_eq_true_eq, decide_eq_false_iff_not, beq_iff_eq, beq_eq_false_iff_ne, bne_iff_ne, bne_eq_false_iff_eq, ne_eq, List.length_map, List.length_cons, List.length_nil, List.length_append, Bool.not_eq_true', Bool.not_eq_false'] at hb; exfalso; omega) | (exfalso; simp [ba_beq, IntKind.wrap, IntKind.bits, IntKind.signed] at hb; done)) | (show W _ _ _ _ _) | (show ∀ k, WL _ _ _ k _ _ _) | (show ∀ k, DL _ _ _ k _ _ _ _) | (show RoundEnd _ _ _ _ _) | refine fR ?_ | (show _ ∧ Go.Am.Fin _ _ _ _ _ _))
    | (show ∀ k, WL _ _ _ k _ _ _; first | refine fun k => lSA fits (oW ?_ _) | refine fun k => lL fits (oW ?_ _) | refine fun k => lQ fits (oW ?_ _) | refine fun k => lX fits (oW ?_ _) | refine fun k => lXa fits (oW ?_ _) | refine fun k => lXs fits (oW ?_ _) | refine fun k => lK fits (oW ?_ _) | refine fun k => lKa fits (oW ?_ _) | refine fun k => lLk fits (oW ?_ _) | refine fun k => lUp fits (oW ?_ _) | refine fun k => lDel fits (oW ?_ _) | refine fun k => lSt fits (oW ?_ _) | refine fun k => lLU fits (oW ?_ _) | refine fun k => lM fits (oW ?_ _) | refine fun k => lA fits (oW ?_ _) | refine fun k => lA0 fits (oW ?_ _) | refine fun k => lA1 fits (oW ?_ _) | refine fun k => lMk fits (oW ?_ _) | refine fun k => lW fits (oW ?_ _)))
    exact ⟨rfl, rfl⟩
  by_cases h4 : s = ⟨#[60, 61]⟩
  · subst h4; refine Spec.body (C := cx [] 16) fits (fn := Try.f38) Try.func38 rfl (by decide) (by decide) (gI ?_)
    repeat' (first
    | ((first | refine gC fits mixed ?_ | refine gC0 fits mixed ?_ | refine gO fits mixed ?_ | refine gR fits mixed ?_); (conv => whnf); first | (refine ⟨fun hb => ?_, fun hb => ?_⟩ <;> try first | (simp only [Bool.not_true, Bool.not_false, Bool.true_eq_false, Bool.false_eq_true, reduceCtorEq] at hb; done) | exact Bool.noConfusion (hb.symm.trans (by assumption) : true = false) | exact Bool.noConfusion (hb.symm.trans (by assumption) : false = true) | (simp only [decide_eq_true_eq, decide_eq_false_iff_not, beq_iff_eq, beq_eq_false_iff_ne, bne_iff_ne, bne_eq_false_iff_eq, ne_eq, List.length_map, List.length_cons, List.length_nil, List.length_append, Bool.not_eq_true', Bool.not_eq_false'] at hb; exfalso; omega) | (exfalso; simp [ba_beq, IntKind.wrap, IntKind.bits, IntKind.signed] at hb; done)) | (show W _ _ _ _ _) | (show ∀ k, WL _ _ _ k _ _ _) | (show ∀ k, DL _ _ _ k _ _ _ _) | (show RoundEnd _ _ _ _ _) | refine fR ?_ | (show _ ∧ Go.Am.Fin _ _ _ _ _ _))
    | (show ∀ k, WL _ _ _ k _ _ _; first | refine fun k => lSA fits (oW ?_ _) | refine fun k => lL fits (oW ?_ _) | refine fun k => lQ fits (oW ?_ _) | refine fun k => lX fits (oW ?_ _) | refine fun k => lXa fits (oW ?_ _) | refine fun k => lXs fits (oW ?_ _) | refine fun k => lK fits (oW ?_ _) | refine fun k => lKa fits (oW ?_ _) | refine fun k => lLk fits (oW ?_ _) | refine fun k => lUp fits (oW ?_ _) | refine fun k => lDel fits (oW ?_ _) | refine fun k => lSt fits (oW ?_ _) | refine fun k => lLU fits (oW ?_ _) | refine fun k => lM fits (oW ?_ _) | refine fun k => lA fits (oW ?_ _) | refine fun k => lA0 fits (oW ?_ _) | refine fun k => lA1 fits (oW ?_ _) | refine fun k => lMk fits (oW ?_ _) | refine fun k => lW fits (oW ?_ _)))
    exact ⟨rfl, rfl⟩
  by_cases h5 : s = ⟨#[62]⟩
  · subst h5; refine Spec.body (C := cx [] 16) fits (fn := Try.f38) Try.func38 rfl (by decide) (by decide) (gI ?_)
    repeat' (first
    | ((first | refine gC fits mixed ?_ | refine gC0 fits mixed ?_ | refine gO fits mixed ?_ | refine gR fits mixed ?_); (conv => whnf); first | (refine ⟨fun hb => ?_, fun hb => ?_⟩ <;> try first | (simp only [Bool.not_true, Bool.not_false, Bool.true_eq_false, Bool.false_eq_true, reduceCtorEq] at hb; done) | exact Bool.noConfusion (hb.symm.trans (by assumption) : true = false) | exact Bool.noConfusion (hb.symm.trans (by assumption) : false = true) | (simp only [decide_eq_true_eq, decide_eq_false_iff_not, beq_iff_eq, beq_eq_false_iff_ne, bne_iff_ne, bne_eq_false_iff_eq, ne_eq, List.length_map, List.length_cons, List.length_nil, List.length_append, Bool.not_eq_true', Bool.not_eq_false'] at hb; exfalso; omega) | (exfalso; simp [ba_beq, IntKind.wrap, IntKind.bits, IntKind.signed] at hb; done)) | (show W _ _ _ _ _) | (show ∀ k, WL _ _ _ k _ _ _) | (show ∀ k, DL _ _ _ k _ _ _ _) | (show RoundEnd _ _ _ _ _) | refine fR ?_ | (show _ ∧ Go.Am.Fin _ _ _ _ _ _))
    | (show ∀ k, WL _ _ _ k _ _ _; first | refine fun k => lSA fits (oW ?_ _) | refine fun k => lL fits (oW ?_ _) | refine fun k => lQ fits (oW ?_ _) | refine fun k => lX fits (oW ?_ _) | refine fun k => lXa fits (oW ?_ _) | refine fun k => lXs fits (oW ?_ _) | refine fun k => lK fits (oW ?_ _) | refine fun k => lKa fits (oW ?_ _) | refine fun k => lLk fits (oW ?_ _) | refine fun k => lUp fits (oW ?_ _) | refine fun k => lDel fits (oW ?_ _) | refine fun k => lSt fits (oW ?_ _) | refine fun k => lLU fits (oW ?_ _) | refine fun k => lM fits (oW ?_ _) | refine fun k => lA fits (oW ?_ _) | refine fun k => lA0 fits (oW ?_ _) | refine fun k => lA1 fits (oW ?_ _) | refine fun k => lMk fits (oW ?_ _) | refine fun k => lW fits (oW ?_ _)))
    exact ⟨rfl, rfl⟩
  by_cases h6 : s = ⟨#[62, 61]⟩
  · subst h6; refine Spec.body (C := cx [] 16) fits (fn := Try.f38) Try.func38 rfl (by decide) (by decide) (gI ?_)
    repeat' (first
    | ((first | refine gC fits mixed ?_ | refine gC0 fits mixed ?_ | refine gO fits mixed ?_ | refine gR fits mixed ?_); (conv => whnf); first | (refine ⟨fun hb => ?_, fun hb => ?_⟩ <;> try first | (simp only [Bool.not_true, Bool.not_false, Bool.true_eq_false, Bool.false_eq_true, reduceCtorEq] at hb; done) | exact Bool.noConfusion (hb.symm.trans (by assumption) : true = false) | exact Bool.noConfusion (hb.symm.trans (by assumption) : false = true) | (simp only [decide_eq_true_eq, decide_eq_false_iff_not, beq_iff_eq, beq_eq_false_iff_ne, bne_iff_ne, bne_eq_false_iff_eq, ne_eq, List.length_map, List.length_cons, List.length_nil, List.length_append, Bool.not_eq_true', Bool.not_eq_false'] at hb; exfalso; omega) | (exfalso; simp [ba_beq, IntKind.wrap, IntKind.bits, IntKind.signed] at hb; done)) | (show W _ _ _ _ _) | (show ∀ k, WL _ _ _ k _ _ _) | (show ∀ k, DL _ _ _ k _ _ _ _) | (show RoundEnd _ _ _ _ _) | refine fR ?_ | (show _ ∧ Go.Am.Fin _ _ _ _ _ _))
    | (show ∀ k, WL _ _ _ k _ _ _; first | refine fun k => lSA fits (oW ?_ _) | refine fun k => lL fits (oW ?_ _) | refine fun k => lQ fits (oW ?_ _) | refine fun k => lX fits (oW ?_ _) | refine fun k => lXa fits (oW ?_ _) | refine fun k => lXs fits (oW ?_ _) | refine fun k => lK fits (oW ?_ _) | refine fun k => lKa fits (oW ?_ _) | refine fun k => lLk fits (oW ?_ _) | refine fun k => lUp fits (oW ?_ _) | refine fun k => lDel fits (oW ?_ _) | refine fun k => lSt fits (oW ?_ _) | refine fun k => lLU fits (oW ?_ _) | refine fun k => lM fits (oW ?_ _) | refine fun k => lA fits (oW ?_ _) | refine fun k => lA0 fits (oW ?_ _) | refine fun k => lA1 fits (oW ?_ _) | refine fun k => lMk fits (oW ?_ _) | refine fun k => lW fits (oW ?_ _)))
    exact ⟨rfl, rfl⟩
  have b1 : (s == (⟨#[61, 61]⟩ : ByteArray)) = false := by rw [ba_beq]; simp [h1]
  have b2 : (s == (⟨#[33, 61]⟩ : ByteArray)) = false := by rw [ba_beq]; simp [h2]
  have b3 : (s == (⟨#[60]⟩ : ByteArray)) = false := by rw [ba_beq]; simp [h3]
  have b4 : (s == (⟨#[60, 61]⟩ : ByteArray)) = false := by rw [ba_beq]; simp [h4]
  have b5 : (s == (⟨#[62]⟩ : ByteArray)) = false := by rw [ba_beq]; simp [h5]
  have b6 : (s == (⟨#[62, 61]⟩ : ByteArray)) = false := by rw [ba_beq]; simp [h6]
  have e : opF s = 0 := by simp [opF, h1, h2, h3, h4, h5, h6]
  rw [e]
  refine Spec.body (C := cx [] 16) fits (fn := Try.f38) Try.func38 rfl (by decide) (by decide) (gI ?_)
  repeat' (first
    | ((first | refine gC fits mixed ?_ | refine gC0 fits mixed ?_ | refine gO fits mixed ?_ | refine gR fits mixed ?_); (conv => whnf); first | (refine ⟨fun hb => ?_, fun hb => ?_⟩ <;> try first | (simp only [Bool.not_true, Bool.not_false, Bool.true_eq_false, Bool.false_eq_true, reduceCtorEq] at hb; done) | exact Bool.noConfusion (hb.symm.trans (by assumption) : true = false) | exact Bool.noConfusion (hb.symm.trans (by assumption) : false = true) | (simp only [decide_eq_true_eq, decide_eq_false_iff_not, beq_iff_eq, beq_eq_false_iff_ne, bne_iff_ne, bne_eq_false_iff_eq, ne_eq, List.length_map, List.length_cons, List.length_nil, List.length_append, Bool.not_eq_true', Bool.not_eq_false'] at hb; exfalso; omega) | (exfalso; simp [ba_beq, IntKind.wrap, IntKind.bits, IntKind.signed] at hb; done)) | (show W _ _ _ _ _) | (show ∀ k, WL _ _ _ k _ _ _) | (show ∀ k, DL _ _ _ k _ _ _ _) | (show RoundEnd _ _ _ _ _) | refine fR ?_ | (show _ ∧ Go.Am.Fin _ _ _ _ _ _))
    | (show ∀ k, WL _ _ _ k _ _ _; first | refine fun k => lSA fits (oW ?_ _) | refine fun k => lL fits (oW ?_ _) | refine fun k => lQ fits (oW ?_ _) | refine fun k => lX fits (oW ?_ _) | refine fun k => lXa fits (oW ?_ _) | refine fun k => lXs fits (oW ?_ _) | refine fun k => lK fits (oW ?_ _) | refine fun k => lKa fits (oW ?_ _) | refine fun k => lLk fits (oW ?_ _) | refine fun k => lUp fits (oW ?_ _) | refine fun k => lDel fits (oW ?_ _) | refine fun k => lSt fits (oW ?_ _) | refine fun k => lLU fits (oW ?_ _) | refine fun k => lM fits (oW ?_ _) | refine fun k => lA fits (oW ?_ _) | refine fun k => lA0 fits (oW ?_ _) | refine fun k => lA1 fits (oW ?_ _) | refine fun k => lMk fits (oW ?_ _) | refine fun k => lW fits (oW ?_ _)))
  exact ⟨rfl, rfl⟩
theorem opF_any (s : ByteArray) : (opF s == 0) = !cmpOps.any (s == ·) := by
  simp only [cmpOps, List.any_cons, List.any_nil, Bool.or_false, ba_beq]
  by_cases h1 : s = ⟨#[61, 61]⟩
  · subst h1; rfl
  by_cases h2 : s = ⟨#[33, 61]⟩
  · subst h2; rfl
  by_cases h3 : s = ⟨#[60]⟩
  · subst h3; rfl
  by_cases h4 : s = ⟨#[60, 61]⟩
  · subst h4; rfl
  by_cases h5 : s = ⟨#[62]⟩
  · subst h5; rfl
  by_cases h6 : s = ⟨#[62, 61]⟩
  · subst h6; rfl
  simp [opF, h1, h2, h3, h4, h5, h6]
theorem depthD : ∀ (n : Nat) (e : Ex), e.size < n → n < 2 ^ 60 → Comp Try.prog 16 [.agg (e.row.map .d)] (int .i64 (depthF e)) := by
  intro n
  induction n with
  | zero => intro e h; omega
  | succ n IH =>
  intro e hs hn
  obtain ⟨kd, o, nm, u, l⟩ := e
  have el : Ex.rows l = l.map Ex.row := Ex.rows_eq l
  simp only [Ex.row, el, List.map_cons, List.map_nil]
  rw [Ex.size] at hs
  have hlen0 : l.length ≤ Ex.sizes l := by
    clear el hs
    induction l with
    | nil => simp [Ex.sizes]
    | cons x r ih => obtain ⟨_, _, _, _, _⟩ := x; simp only [Ex.sizes, Ex.size, List.length_cons]; omega
  generalize hfb : depthF (.mk kd o nm u l) = fb
  rw [depthF] at hfb
  refine Spec.body (C := cx [] 25) fits (fn := Try.f16) Try.func16 rfl (by decide) (by decide) (gI ?_)
  repeat' (first
    | ((first | refine gC fits mixed ?_ | refine gC0 fits mixed ?_ | refine gO fits mixed ?_ | refine gR fits mixed ?_); (conv => whnf); first | (refine ⟨fun hb => ?_, fun hb => ?_⟩ <;> try first | (simp only [Bool.not_true, Bool.not_false, Bool.true_eq_false, Bool.false_eq_true, reduceCtorEq] at hb; done) | exact Bool.noConfusion (hb.symm.trans (by assumption) : true = false) | exact Bool.noConfusion (hb.symm.trans (by assumption) : false = true) | (simp only [decide_eq_true_eq, decide_eq_false_iff_not, beq_iff_eq, beq_eq_false_iff_ne, bne_iff_ne, bne_eq_false_iff_eq, ne_eq, List.length_map, List.length_cons, List.length_nil, List.length_append, Bool.not_eq_true', Bool.not_eq_false'] at hb; exfalso; omega) | (exfalso; simp [ba_beq, IntKind.wrap, IntKind.bits, IntKind.signed] at hb; done)) | (show W _ _ _ _ _) | (show ∀ k, WL _ _ _ k _ _ _) | (show ∀ k, DL _ _ _ k _ _ _ _) | (show RoundEnd _ _ _ _ _) | refine fR ?_ | (show _ ∧ Go.Am.Fin _ _ _ _ _ _))
    | (show ∀ k, WL _ _ _ k _ _ _; first | refine fun k => lSA fits (oW ?_ _) | refine fun k => lL fits (oW ?_ _) | refine fun k => lQ fits (oW ?_ _) | refine fun k => lX fits (oW ?_ _) | refine fun k => lXa fits (oW ?_ _) | refine fun k => lXs fits (oW ?_ _) | refine fun k => lK fits (oW ?_ _) | refine fun k => lKa fits (oW ?_ _) | refine fun k => lLk fits (oW ?_ _) | refine fun k => lUp fits (oW ?_ _) | refine fun k => lDel fits (oW ?_ _) | refine fun k => lSt fits (oW ?_ _) | refine fun k => lLU fits (oW ?_ _) | refine fun k => lM fits (oW ?_ _) | refine fun k => lA fits (oW ?_ _) | refine fun k => lA0 fits (oW ?_ _) | refine fun k => lA1 fits (oW ?_ _) | refine fun k => lMk fits (oW ?_ _) | refine fun k => lW fits (oW ?_ _)))
  refine wLoop [1, 3, 4] 1 (l.length + 1) ?_
  refine (fun key => key l [] _ 0 rfl rfl rfl (by omega) (by omega) :
    (∀ (rest done : List Ex) (j m : Int), l = done ++ rest → j = done.length → depthsF l 0 = depthsF rest m → 0 ≤ m → m ≤ Ex.sizes l →
    WR2 _ _ _ _ _ (rest.length + 1) [(1, .one (.ptr 0 0)), (3, int .i64 m), (4, int .i64 j)] [.var [.d (.sc (.int .i64 kd)), .d (.sc (.string o)), .d (.sc (.string nm)), .d (.sc (.int .u64 u)), .d (.list (l.map Ex.row))]]) → _) ?_
  intro rest
  induction rest with
  | nil =>
    intro done j m h1 hj hr hm hm2
    have hlen : l.length = done.length := by rw [h1]; simp
    refine wR (gI ?_)
    repeat' (first
    | ((first | refine gC fits mixed ?_ | refine gC0 fits mixed ?_ | refine gO fits mixed ?_ | refine gR fits mixed ?_); (conv => whnf); first | (refine ⟨fun hb => ?_, fun hb => ?_⟩ <;> try first | (simp only [Bool.not_true, Bool.not_false, Bool.true_eq_false, Bool.false_eq_true, reduceCtorEq] at hb; done) | exact Bool.noConfusion (hb.symm.trans (by assumption) : true = false) | exact Bool.noConfusion (hb.symm.trans (by assumption) : false = true) | (simp only [decide_eq_true_eq, decide_eq_false_iff_not, beq_iff_eq, beq_eq_false_iff_ne, bne_iff_ne, bne_eq_false_iff_eq, ne_eq, List.length_map, List.length_cons, List.length_nil, List.length_append, Bool.not_eq_true', Bool.not_eq_false'] at hb; exfalso; omega) | (exfalso; simp [ba_beq, IntKind.wrap, IntKind.bits, IntKind.signed] at hb; done)) | (show W _ _ _ _ _) | (show ∀ k, WL _ _ _ k _ _ _) | (show ∀ k, DL _ _ _ k _ _ _ _) | (show RoundEnd _ _ _ _ _) | refine fR ?_ | (show _ ∧ Go.Am.Fin _ _ _ _ _ _))
    | (show ∀ k, WL _ _ _ k _ _ _; first | refine fun k => lSA fits (oW ?_ _) | refine fun k => lL fits (oW ?_ _) | refine fun k => lQ fits (oW ?_ _) | refine fun k => lX fits (oW ?_ _) | refine fun k => lXa fits (oW ?_ _) | refine fun k => lXs fits (oW ?_ _) | refine fun k => lK fits (oW ?_ _) | refine fun k => lKa fits (oW ?_ _) | refine fun k => lLk fits (oW ?_ _) | refine fun k => lUp fits (oW ?_ _) | refine fun k => lDel fits (oW ?_ _) | refine fun k => lSt fits (oW ?_ _) | refine fun k => lLU fits (oW ?_ _) | refine fun k => lM fits (oW ?_ _) | refine fun k => lA fits (oW ?_ _) | refine fun k => lA0 fits (oW ?_ _) | refine fun k => lA1 fits (oW ?_ _) | refine fun k => lMk fits (oW ?_ _) | refine fun k => lW fits (oW ?_ _)))
    exact ⟨by rw [wrap_ok (by omega) (by omega), ← hfb, hr, depthsF]; rfl, rfl⟩
  | cons x rest ih =>
    intro done j m h1 hj hr hm hm2
    have hlen : l.length = done.length + (rest.length + 1) := by rw [h1]; simp
    have hxs := Ex.size_mem (l := l) (x := x) (by rw [h1]; simp)
    have hc := IH x (by omega) (by omega)
    have hd := depthF_le x
    rw [depthsF] at hr
    obtain ⟨xk, xo, xn, xu, xl⟩ := x
    refine wR (gI ?_)
    repeat' (first
    | ((first | refine gC fits mixed ?_ | refine gC0 fits mixed ?_ | refine gO fits mixed ?_ | refine gR fits mixed ?_); (conv => whnf); first | (refine ⟨fun hb => ?_, fun hb => ?_⟩ <;> try first | (simp only [Bool.not_true, Bool.not_false, Bool.true_eq_false, Bool.false_eq_true, reduceCtorEq] at hb; done) | exact Bool.noConfusion (hb.symm.trans (by assumption) : true = false) | exact Bool.noConfusion (hb.symm.trans (by assumption) : false = true) | (simp only [decide_eq_true_eq, decide_eq_false_iff_not, beq_iff_eq, beq_eq_false_iff_ne, bne_iff_ne, bne_eq_false_iff_eq, ne_eq, List.length_map, List.length_cons, List.length_nil, List.length_append, Bool.not_eq_true', Bool.not_eq_false'] at hb; exfalso; omega) | (exfalso; simp [ba_beq, IntKind.wrap, IntKind.bits, IntKind.signed] at hb; done)) | (show W _ _ _ _ _) | (show ∀ k, WL _ _ _ k _ _ _) | (show ∀ k, DL _ _ _ k _ _ _ _) | (show RoundEnd _ _ _ _ _) | refine fR ?_ | (show _ ∧ Go.Am.Fin _ _ _ _ _ _))
    | (show ∀ k, WL _ _ _ k _ _ _; first | refine fun k => lC (hc) (oW ?_ _) | refine fun k => lSA fits (oW ?_ _) | refine fun k => lL fits (oW ?_ _) | refine fun k => lQ fits (oW ?_ _) | refine fun k => lX fits (oW ?_ _) | refine fun k => lXa fits (oW ?_ _) | refine fun k => lXs fits (oW ?_ _) | refine fun k => lK fits (oW ?_ _) | refine fun k => lKa fits (oW ?_ _) | refine fun k => lLk fits (oW ?_ _) | refine fun k => lUp fits (oW ?_ _) | refine fun k => lDel fits (oW ?_ _) | refine fun k => lSt fits (oW ?_ _) | refine fun k => lLU fits (oW ?_ _) | refine fun k => lM fits (oW ?_ _) | refine fun k => lA fits (oW ?_ _) | refine fun k => lA0 fits (oW ?_ _) | refine fun k => lA1 fits (oW ?_ _) | refine fun k => lMk fits (oW ?_ _) | refine fun k => lW fits (oW ?_ _)))
    · have hgt : depthF (Ex.mk xk xo xn xu xl) > m := by simpa using hb
      have e : max m (depthF (Ex.mk xk xo xn xu xl)) = depthF (Ex.mk xk xo xn xu xl) := by omega
      refine rE (ih (done ++ [Ex.mk xk xo xn xu xl]) _ _ (by rw [h1]; simp) ?_ (by rw [hr, e]) (by omega) (by omega))
      rw [wrap_ok (by omega) (by omega)]; simp [hj]
    · have hgt : ¬ depthF (Ex.mk xk xo xn xu xl) > m := by simpa using hb
      have e : max m (depthF (Ex.mk xk xo xn xu xl)) = m := by omega
      refine rE (ih (done ++ [Ex.mk xk xo xn xu xl]) _ _ (by rw [h1]; simp) ?_ (by rw [hr, e]) (by omega) (by omega))
      rw [wrap_ok (by omega) (by omega)]; simp [hj]
end Go.Proofs.Ytngkoancdmimkaa
