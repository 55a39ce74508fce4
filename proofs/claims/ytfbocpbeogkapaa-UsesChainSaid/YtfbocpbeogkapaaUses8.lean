/- A part of a proof: functions of the program, walked over the abstract machine. -/
import Derived.Test.YtfbocpbeogkapaaUses7
set_option linter.unusedVariables false
set_option linter.unusedSimpArgs false
namespace Go.Proofs.Ytfbocpbeogkapaa
open Go Go.Am Go.Proofs
attribute [local irreducible] W WL DL WO RoundEnd
set_option maxRecDepth 10000
set_option maxHeartbeats 4000000
/-- policies by name -/
def polsM (l : List Pol) : AL (List Part) := l.map fun p => (p.name, p.parts)
/-- is a name there twice? -/
def dup : AL (List Part) → List Pol → Bool
  | _, [] => false
  | m, x :: r => if (fk x.name m 0).isSome then true else dup (m ++ [(x.name, x.parts)]) r
def namesF (g : Fl → ByteArray → Int × Fl) : Fl → List ByteArray → Int × Fl
  | s, [] => (0, s)
  | s, x :: r => let q := g s x; if q.1 = 0 then namesF g q.2 r else q
/-- a part that uses none -/
def Part.strip (p : Part) : Part := ⟨⟨#[]⟩, p.act, p.rules⟩
def startF : Fl := ⟨[], [], []⟩
def flatF (l : List Pol) (names : List ByteArray) : List Part × Int :=
  if dup [] l then ([], 8)
  else let q := namesF (polF (polsM l) (l.length + 1)) startF names
    if q.1 = 0 then (q.2.out.map Part.strip, 0) else ([], q.1)
/-- all parts are so -/
def Fl.alls (P : Part → Prop) (s : Fl) : Prop := (∀ x ∈ s.out, P x) ∧ ∀ p ∈ s.known, ∀ x ∈ p.2, P x
theorem addF_alls {P : Part → Prop} {s : Fl} {l : List Part} (h : s.alls P) (hl : ∀ x ∈ l, P x) : (addF s l).2.alls P :=
  ⟨fun x hx => by rcases List.mem_append.1 hx with hx | hx; exact h.1 x hx; exact hl x hx, h.2⟩
theorem partsF_alls {P : Part → Prop} {g : Fl → ByteArray → Int × Fl} (hg : ∀ s name, s.alls P → (g s name).2.alls P) : ∀ (l : List Part) (s : Fl), (∀ x ∈ l, P x) → s.alls P → (partsF g s l).2.alls P
  | [], s, _, h => h
  | x :: r, s, hl, h => by
    have h1 : (if x.use = ⟨#[]⟩ then addF s [x] else g s x.use).2.alls P := by
      by_cases he : x.use = ⟨#[]⟩
      · simp only [if_pos he]; exact addF_alls h (by intro y hy; simp at hy; subst hy; exact hl _ (by simp))
      · simp only [if_neg he]; exact hg _ _ h
    simp only [partsF]
    generalize (if x.use = ⟨#[]⟩ then addF s [x] else g s x.use) = q at h1 ⊢
    by_cases hz : q.1 = 0
    · rw [if_pos hz]; exact partsF_alls hg r _ (fun y hy => hl y (by simp [hy])) h1
    · rw [if_neg hz]; exact h1
theorem polF_alls {P : Part → Prop} (m : AL (List Part)) (hm : ∀ p ∈ m, ∀ x ∈ p.2, P x) : ∀ (n : Nat) (s : Fl) (name : ByteArray), s.alls P → (polF m n s name).2.alls P
  | 0, s, _, h => h
  | n + 1, s, name, h => by
    simp only [polF]
    split
    · exact h
    · rename_i ps h1
      have hps := hm _ (fk_mem h1)
      split
      · exact h
      · split
        · rename_i h3; exact addF_alls h (h.2 _ (fk_mem h3))
        · have h2 := partsF_alls (polF_alls m hm n) ps { s with within := s.within ++ [(name, ())] } hps h
          split
          · refine ⟨h2.1, fun p hp => ?_⟩
            rcases setK_mem hp with hp | rfl
            · exact h2.2 p hp
            · exact fun x hx => h2.1 x (List.mem_of_mem_drop hx)
          · exact h2
theorem polsM_app (l : List Pol) (x : Pol) : entsM (polsM (l ++ [x])) = entsM (polsM l) ++ [(.string x.name, .agg [.d (.sc (.string x.name)), .d (.list (x.parts.map Part.row))])] := by
  simp [polsM, entsM, encP]
theorem polsM_app' (l : List Pol) (x : Pol) : polsM (l ++ [x]) = polsM l ++ [(x.name, x.parts)] := by simp [polsM]
theorem room_le (m : AL (List Part)) (w : AL Unit) : room m w ≤ m.length := by
  simp only [room]; exact Nat.le_trans (List.length_filter_le _ _) (by simp)
theorem underD (L : Nat → Bool) (l : List D) : underAll L (l.map .d) = true := by
  induction l with
  | nil => rfl
  | cons x r ih => simp only [List.map_cons, underAll, Cell.under, ih]; rfl
theorem under9 {E1 E2 E3 : MapE} (h1 : pureE E1) (h2 : pureE E2) (h3 : pureE E3) {n1 n2 : Nat} {r1 r2 r3 : List (List D)} {a1 a2 a3 a4 b1 b2 b3 : D} :
    ([Ob.map E1, .map E2, .map E3, .var [.map 0, .map 1, .map 2, .arr 4 0 n1], .arr 0 false 4 r1, .arr 0 false 4 r2, .var [.d a1, .d a2, .d a3, .d a4], .var [.d b1, .d b2, .d b3, .arr 8 0 n2], .arr 0 false 3 r3].all fun o => o.under (alive [Ob.map E1, .map E2, .map E3, .var [.map 0, .map 1, .map 2, .arr 4 0 n1], .arr 0 false 4 r1, .arr 0 false 4 r2, .var [.d a1, .d a2, .d a3, .d a4], .var [.d b1, .d b2, .d b3, .arr 8 0 n2], .arr 0 false 3 r3])) = true := by
  simp only [List.all_cons, List.all_nil, Ob.under, h1 _, h2 _, h3 _, Bool.true_and, Bool.and_true]
  rfl
theorem under10 {E1 E2 E3 : MapE} (h1 : pureE E1) (h2 : pureE E2) (h3 : pureE E3) {n1 : Nat} {r1 r2 : List (List D)} :
    ([Ob.map E1, .map E2, .map E3, .var [.map 0, .map 1, .map 2, .arr 4 0 n1], .arr 0 false 4 r1, .arr 0 false 4 r2].all fun o => o.under (alive [Ob.map E1, .map E2, .map E3, .var [.map 0, .map 1, .map 2, .arr 4 0 n1], .arr 0 false 4 r1, .arr 0 false 4 r2])) = true := by
  simp only [List.all_cons, List.all_nil, Ob.under, h1 _, h2 _, h3 _, Bool.true_and, Bool.and_true]
  rfl
theorem flatR (l : List Pol) (names : List ByteArray) (hl : l.length ≤ 100) (hn : names.length ≤ 100) (hm : ∀ p ∈ l, p.parts.length * 56 ≤ 2 ^ 47) (hr : ∀ p ∈ l, ∀ x ∈ p.parts, x.ok) :
    Comp Try.prog 19 [lst Pol.row l, lst strow names] (.tup [.one (.d (.list ((flatF l names).1.map Part.row))), .one (.d (.sc (.int .i64 (flatF l names).2)))]) := by
  refine Spec.body (C := cx [(14, false)] 96) fits (fn := Try.f19) Try.func19 rfl (by decide) (by decide) (gI ?_)
  repeat' (first
    | ((first | refine gC fits mixed ?_ | refine gC0 fits mixed ?_ | refine gO fits mixed ?_ | refine gR fits mixed ?_); (conv => whnf); first | (refine ⟨fun hb => ?_, fun hb => ?_⟩ <;> try first | (simp only [Bool.not_true, Bool.not_false, Bool.true_eq_false, Bool.false_eq_true, reduceCtorEq] at hb; done) | (simp only [decide_eq_true_eq, decide_eq_false_iff_not, beq_iff_eq, beq_eq_false_iff_ne, bne_iff_ne, bne_eq_false_iff_eq, ne_eq, List.length_map, List.length_cons, List.length_nil, List.length_append, Bool.not_eq_true', Bool.not_eq_false'] at hb; exfalso; omega) | (exfalso; simp [ba_beq, IntKind.wrap, IntKind.bits, IntKind.signed] at hb; done)) | (show W _ _ _ _ _) | (show ∀ k, WL _ _ _ k _ _ _) | (show ∀ k, DL _ _ _ k _ _ _ _) | (show RoundEnd _ _ _ _ _) | refine fR ?_ | (show _ ∧ Go.Am.Fin _ _ _ _ _ _))
    | (show ∀ k, WL _ _ _ k _ _ _; first | refine fun k => lSA fits (oW ?_ _) | refine fun k => lL fits (oW ?_ _) | refine fun k => lQ fits (oW ?_ _) | refine fun k => lX fits (oW ?_ _) | refine fun k => lXa fits (oW ?_ _) | refine fun k => lK fits (oW ?_ _) | refine fun k => lKa fits (oW ?_ _) | refine fun k => lLk fits (oW ?_ _) | refine fun k => lUp fits (oW ?_ _) | refine fun k => lDel fits (oW ?_ _) | refine fun k => lSt fits (oW ?_ _) | refine fun k => lLU fits (oW ?_ _) | refine fun k => lM fits (oW ?_ _) | refine fun k => lA fits (oW ?_ _) | refine fun k => lA0 fits (oW ?_ _) | refine fun k => lA1 fits (oW ?_ _) | refine fun k => lMk fits (oW ?_ _) | refine fun k => lW fits (oW ?_ _))
    | (show ∀ k, DL _ _ _ k _ _ _ _; first | refine fun k => dSA fits (oD ?_ _) | refine fun k => dL fits (oD ?_ _) | refine fun k => dQ fits (oD ?_ _) | refine fun k => dX fits (oD ?_ _) | refine fun k => dK fits (oD ?_ _) | refine fun k => dKa fits (oD ?_ _) | refine fun k => dLk fits (oD ?_ _) | refine fun k => dUp fits (oD ?_ _) | refine fun k => dA fits (oD ?_ _) | refine fun k => dA0 fits (oD ?_ _) | refine fun k => dSt fits (oD ?_ _) | refine fun k => dLU fits (oD ?_ _) | refine fun k => dM fits (oD ?_ _) | refine fun k => dN fits (oD ?_ _) | refine fun k => dW fits (oD ?_ _)))
  refine gA 3 3 false 4 ?_
  refine wLoop [1, 6, 25, 26, 27] 5 (l.length + 1) ?_
  refine (fun key => key l [] _ rfl rfl rfl :
    (∀ (rest done : List Pol) (j : Int), l = done ++ rest → j = done.length → dup [] l = dup (polsM done) rest →
    WR2 _ _ _ _ _ (rest.length + 1) [(1, lst strow names), (6, .one (.ptr 3 0)), (25, lst Pol.row l), (26, int .i64 (l.map Pol.row).length), (27, int .i64 j)]
      [.map (entsM (polsM done)), .map (ents encW []), .map (ents encK []), .var [.map 0, .map 1, .map 2, .arr 4 0 (([] : List Part).map Part.row).length], .arr 0 false 4 (([] : List Part).map Part.row)]) → _) ?_
  intro rest
  induction rest with
  | nil =>
    intro done j hl1 hj hd
    have hlen : l.length = done.length := by subst hl1; simp
    refine wR (gI ?_)
    repeat' (first
    | ((first | refine gC fits mixed ?_ | refine gC0 fits mixed ?_ | refine gO fits mixed ?_ | refine gR fits mixed ?_); (conv => whnf); first | (refine ⟨fun hb => ?_, fun hb => ?_⟩ <;> try first | (simp only [Bool.not_true, Bool.not_false, Bool.true_eq_false, Bool.false_eq_true, reduceCtorEq] at hb; done) | (simp only [decide_eq_true_eq, decide_eq_false_iff_not, beq_iff_eq, beq_eq_false_iff_ne, bne_iff_ne, bne_eq_false_iff_eq, ne_eq, List.length_map, List.length_cons, List.length_nil, List.length_append, Bool.not_eq_true', Bool.not_eq_false'] at hb; exfalso; omega) | (exfalso; simp [ba_beq, IntKind.wrap, IntKind.bits, IntKind.signed] at hb; done)) | (show W _ _ _ _ _) | (show ∀ k, WL _ _ _ k _ _ _) | (show ∀ k, DL _ _ _ k _ _ _ _) | (show RoundEnd _ _ _ _ _) | refine fR ?_ | (show _ ∧ Go.Am.Fin _ _ _ _ _ _))
    | (show ∀ k, WL _ _ _ k _ _ _; first | refine fun k => lSA fits (oW ?_ _) | refine fun k => lL fits (oW ?_ _) | refine fun k => lQ fits (oW ?_ _) | refine fun k => lX fits (oW ?_ _) | refine fun k => lXa fits (oW ?_ _) | refine fun k => lK fits (oW ?_ _) | refine fun k => lKa fits (oW ?_ _) | refine fun k => lLk fits (oW ?_ _) | refine fun k => lUp fits (oW ?_ _) | refine fun k => lDel fits (oW ?_ _) | refine fun k => lSt fits (oW ?_ _) | refine fun k => lLU fits (oW ?_ _) | refine fun k => lM fits (oW ?_ _) | refine fun k => lA fits (oW ?_ _) | refine fun k => lA0 fits (oW ?_ _) | refine fun k => lA1 fits (oW ?_ _) | refine fun k => lMk fits (oW ?_ _) | refine fun k => lW fits (oW ?_ _))
    | (show ∀ k, DL _ _ _ k _ _ _ _; first | refine fun k => dSA fits (oD ?_ _) | refine fun k => dL fits (oD ?_ _) | refine fun k => dQ fits (oD ?_ _) | refine fun k => dX fits (oD ?_ _) | refine fun k => dK fits (oD ?_ _) | refine fun k => dKa fits (oD ?_ _) | refine fun k => dLk fits (oD ?_ _) | refine fun k => dUp fits (oD ?_ _) | refine fun k => dA fits (oD ?_ _) | refine fun k => dA0 fits (oD ?_ _) | refine fun k => dSt fits (oD ?_ _) | refine fun k => dLU fits (oD ?_ _) | refine fun k => dM fits (oD ?_ _) | refine fun k => dN fits (oD ?_ _) | refine fun k => dW fits (oD ?_ _)))
    have hll : l = done := by simpa using hl1
    subst hll
    have hdf : dup [] l = false := by rw [hd]; rfl
    refine wLoop [6, 50, 51, 52] 5 (names.length + 1) ?_
    refine (fun key => key names [] _ startF rfl rfl rfl ⟨by decide, by intro p hp; cases hp⟩ rfl ⟨(by intro p hp; cases hp), (by intro p hp; cases hp)⟩ :
      (∀ (rest done : List ByteArray) (j : Int) (s : Fl), names = done ++ rest → j = done.length → namesF (polF (polsM l) (l.length + 1)) startF names = namesF (polF (polsM l) (l.length + 1)) s rest → s.ok → s.within = [] → s.alls Part.ok →
      WR2 _ _ _ _ _ (rest.length + 1) [(6, .one (.ptr 3 0)), (50, lst strow names), (51, int .i64 (names.map strow).length), (52, int .i64 j)]
        [.map (entsM (polsM l)), .map (ents encW s.within), .map (ents encK s.known), .var [.map 0, .map 1, .map 2, .arr 4 0 (s.out.map Part.row).length], .arr 0 false 4 (s.out.map Part.row)]) → _) ?_
    intro rest
    induction rest with
    | nil =>
      intro done j s hl1 hj hq hs hw hall
      have hlen : names.length = done.length := by subst hl1; simp
      refine wR (gI ?_)
      repeat' (first
    | ((first | refine gC fits mixed ?_ | refine gC0 fits mixed ?_ | refine gO fits mixed ?_ | refine gR fits mixed ?_); (conv => whnf); first | (refine ⟨fun hb => ?_, fun hb => ?_⟩ <;> try first | (simp only [Bool.not_true, Bool.not_false, Bool.true_eq_false, Bool.false_eq_true, reduceCtorEq] at hb; done) | (simp only [decide_eq_true_eq, decide_eq_false_iff_not, beq_iff_eq, beq_eq_false_iff_ne, bne_iff_ne, bne_eq_false_iff_eq, ne_eq, List.length_map, List.length_cons, List.length_nil, List.length_append, Bool.not_eq_true', Bool.not_eq_false'] at hb; exfalso; omega) | (exfalso; simp [ba_beq, IntKind.wrap, IntKind.bits, IntKind.signed] at hb; done)) | (show W _ _ _ _ _) | (show ∀ k, WL _ _ _ k _ _ _) | (show ∀ k, DL _ _ _ k _ _ _ _) | (show RoundEnd _ _ _ _ _) | refine fR ?_ | (show _ ∧ Go.Am.Fin _ _ _ _ _ _))
    | (show ∀ k, WL _ _ _ k _ _ _; first | refine fun k => lSA fits (oW ?_ _) | refine fun k => lL fits (oW ?_ _) | refine fun k => lQ fits (oW ?_ _) | refine fun k => lX fits (oW ?_ _) | refine fun k => lXa fits (oW ?_ _) | refine fun k => lK fits (oW ?_ _) | refine fun k => lKa fits (oW ?_ _) | refine fun k => lLk fits (oW ?_ _) | refine fun k => lUp fits (oW ?_ _) | refine fun k => lDel fits (oW ?_ _) | refine fun k => lSt fits (oW ?_ _) | refine fun k => lLU fits (oW ?_ _) | refine fun k => lM fits (oW ?_ _) | refine fun k => lA fits (oW ?_ _) | refine fun k => lA0 fits (oW ?_ _) | refine fun k => lA1 fits (oW ?_ _) | refine fun k => lMk fits (oW ?_ _) | refine fun k => lW fits (oW ?_ _))
    | (show ∀ k, DL _ _ _ k _ _ _ _; first | refine fun k => dSA fits (oD ?_ _) | refine fun k => dL fits (oD ?_ _) | refine fun k => dQ fits (oD ?_ _) | refine fun k => dX fits (oD ?_ _) | refine fun k => dK fits (oD ?_ _) | refine fun k => dKa fits (oD ?_ _) | refine fun k => dLk fits (oD ?_ _) | refine fun k => dUp fits (oD ?_ _) | refine fun k => dA fits (oD ?_ _) | refine fun k => dA0 fits (oD ?_ _) | refine fun k => dSt fits (oD ?_ _) | refine fun k => dLU fits (oD ?_ _) | refine fun k => dM fits (oD ?_ _) | refine fun k => dN fits (oD ?_ _) | refine fun k => dW fits (oD ?_ _)))
      have hso := hs.1
      refine wLoop [14, 66, 67, 68] 6 (s.out.length + 1) ?_
      refine (fun key => key s.out [] _ rfl rfl :
        (∀ (rest done : List Part) (j : Int), s.out = done ++ rest → j = done.length →
        WR2 _ _ _ _ _ (rest.length + 1) [(14, .one (.arr 5 0 ((done.map Part.strip).map Part.row).length)), (66, .one (.arr 4 0 (s.out.map Part.row).length)), (67, int .i64 (s.out.map Part.row).length), (68, int .i64 j)]
          [.map (entsM (polsM l)), .map (ents encW s.within), .map (ents encK s.known), .var [.map 0, .map 1, .map 2, .arr 4 0 (s.out.map Part.row).length], .arr 0 false 4 (s.out.map Part.row), .arr 0 false 4 ((done.map Part.strip).map Part.row)]) → _) ?_
      intro rest
      induction rest with
      | nil =>
        intro done j hl1 hj
        have hlen : s.out.length = done.length := by rw [hl1]; simp
        refine wR (gI ?_)
        repeat' (first
    | ((first | refine gC fits mixed ?_ | refine gC0 fits mixed ?_ | refine gO fits mixed ?_ | refine gR fits mixed ?_); (conv => whnf); first | (refine ⟨fun hb => ?_, fun hb => ?_⟩ <;> try first | (simp only [Bool.not_true, Bool.not_false, Bool.true_eq_false, Bool.false_eq_true, reduceCtorEq] at hb; done) | (simp only [decide_eq_true_eq, decide_eq_false_iff_not, beq_iff_eq, beq_eq_false_iff_ne, bne_iff_ne, bne_eq_false_iff_eq, ne_eq, List.length_map, List.length_cons, List.length_nil, List.length_append, Bool.not_eq_true', Bool.not_eq_false'] at hb; exfalso; omega) | (exfalso; simp [ba_beq, IntKind.wrap, IntKind.bits, IntKind.signed] at hb; done)) | (show W _ _ _ _ _) | (show ∀ k, WL _ _ _ k _ _ _) | (show ∀ k, DL _ _ _ k _ _ _ _) | (show RoundEnd _ _ _ _ _) | refine fR ?_ | (show _ ∧ Go.Am.Fin _ _ _ _ _ _))
    | (show ∀ k, WL _ _ _ k _ _ _; first | refine fun k => lSA fits (oW ?_ _) | refine fun k => lL fits (oW ?_ _) | refine fun k => lQ fits (oW ?_ _) | refine fun k => lX fits (oW ?_ _) | refine fun k => lXa fits (oW ?_ _) | refine fun k => lK fits (oW ?_ _) | refine fun k => lKa fits (oW ?_ _) | refine fun k => lLk fits (oW ?_ _) | refine fun k => lUp fits (oW ?_ _) | refine fun k => lDel fits (oW ?_ _) | refine fun k => lSt fits (oW ?_ _) | refine fun k => lLU fits (oW ?_ _) | refine fun k => lM fits (oW ?_ _) | refine fun k => lA fits (oW ?_ _) | refine fun k => lA0 fits (oW ?_ _) | refine fun k => lA1 fits (oW ?_ _) | refine fun k => lMk fits (oW ?_ _) | refine fun k => lW fits (oW ?_ _))
    | (show ∀ k, DL _ _ _ k _ _ _ _; first | refine fun k => dSA fits (oD ?_ _) | refine fun k => dL fits (oD ?_ _) | refine fun k => dQ fits (oD ?_ _) | refine fun k => dX fits (oD ?_ _) | refine fun k => dK fits (oD ?_ _) | refine fun k => dKa fits (oD ?_ _) | refine fun k => dLk fits (oD ?_ _) | refine fun k => dUp fits (oD ?_ _) | refine fun k => dA fits (oD ?_ _) | refine fun k => dA0 fits (oD ?_ _) | refine fun k => dSt fits (oD ?_ _) | refine fun k => dLU fits (oD ?_ _) | refine fun k => dM fits (oD ?_ _) | refine fun k => dN fits (oD ?_ _) | refine fun k => dW fits (oD ?_ _)))
        have hdd : done = s.out := by rw [hl1]; simp
        subst hdd
        exact ⟨by simp only [flatF, hdf, hq]; rfl, rfl⟩
      | cons x rest ih =>
        intro done j hl1 hj
        have hlen : s.out.length = done.length + (rest.length + 1) := by rw [hl1]; simp
        have hxo : x.ok := hall.1 x (by rw [hl1]; simp)
        obtain ⟨xu, ⟨xk, xd⟩, xr⟩ := x
        refine wR (gI ?_)
        repeat' (first
    | ((first | refine gC fits mixed ?_ | refine gC0 fits mixed ?_ | refine gO fits mixed ?_ | refine gR fits mixed ?_); (conv => whnf); first | (refine ⟨fun hb => ?_, fun hb => ?_⟩ <;> try first | (simp only [Bool.not_true, Bool.not_false, Bool.true_eq_false, Bool.false_eq_true, reduceCtorEq] at hb; done) | (simp only [decide_eq_true_eq, decide_eq_false_iff_not, beq_iff_eq, beq_eq_false_iff_ne, bne_iff_ne, bne_eq_false_iff_eq, ne_eq, List.length_map, List.length_cons, List.length_nil, List.length_append, Bool.not_eq_true', Bool.not_eq_false'] at hb; exfalso; omega) | (exfalso; simp [ba_beq, IntKind.wrap, IntKind.bits, IntKind.signed] at hb; done)) | (show W _ _ _ _ _) | (show ∀ k, WL _ _ _ k _ _ _) | (show ∀ k, DL _ _ _ k _ _ _ _) | (show RoundEnd _ _ _ _ _) | refine fR ?_ | (show _ ∧ Go.Am.Fin _ _ _ _ _ _))
    | (show ∀ k, WL _ _ _ k _ _ _; first | refine fun k => lSA fits (oW ?_ _) | refine fun k => lL fits (oW ?_ _) | refine fun k => lQ fits (oW ?_ _) | refine fun k => lX fits (oW ?_ _) | refine fun k => lXa fits (oW ?_ _) | refine fun k => lK fits (oW ?_ _) | refine fun k => lKa fits (oW ?_ _) | refine fun k => lLk fits (oW ?_ _) | refine fun k => lUp fits (oW ?_ _) | refine fun k => lDel fits (oW ?_ _) | refine fun k => lSt fits (oW ?_ _) | refine fun k => lLU fits (oW ?_ _) | refine fun k => lM fits (oW ?_ _) | refine fun k => lA fits (oW ?_ _) | refine fun k => lA0 fits (oW ?_ _) | refine fun k => lA1 fits (oW ?_ _) | refine fun k => lMk fits (oW ?_ _) | refine fun k => lW fits (oW ?_ _))
    | (show ∀ k, DL _ _ _ k _ _ _ _; first | refine fun k => dSA fits (oD ?_ _) | refine fun k => dL fits (oD ?_ _) | refine fun k => dQ fits (oD ?_ _) | refine fun k => dX fits (oD ?_ _) | refine fun k => dK fits (oD ?_ _) | refine fun k => dKa fits (oD ?_ _) | refine fun k => dLk fits (oD ?_ _) | refine fun k => dUp fits (oD ?_ _) | refine fun k => dA fits (oD ?_ _) | refine fun k => dA0 fits (oD ?_ _) | refine fun k => dSt fits (oD ?_ _) | refine fun k => dLU fits (oD ?_ _) | refine fun k => dM fits (oD ?_ _) | refine fun k => dN fits (oD ?_ _) | refine fun k => dW fits (oD ?_ _)))
        refine gA 7 3 false 3 ?_
        refine wLoop [14, 16, 17, 66, 67, 68, 76, 77, 78] 9 (xr.length + 1) ?_
        refine (fun key => key xr [] _ rfl rfl :
          (∀ (rest2 done2 : List Rule) (j2 : Int), xr = done2 ++ rest2 → j2 = done2.length →
          WR2 _ _ _ _ _ (rest2.length + 1) [(14, .one (.arr 5 0 ((done.map Part.strip).map Part.row).length)), (16, .one (.ptr 6 0)), (17, .one (.ptr 7 0)), (66, .one (.arr 4 0 (s.out.map Part.row).length)), (67, int .i64 (s.out.map Part.row).length), (68, int .i64 j), (76, lst Rule.row xr), (77, int .i64 (xr.map Rule.row).length), (78, int .i64 j2)]
            [.map (entsM (polsM l)), .map (ents encW s.within), .map (ents encK s.known), .var [.map 0, .map 1, .map 2, .arr 4 0 (s.out.map Part.row).length], .arr 0 false 4 (s.out.map Part.row), .arr 0 false 4 ((done.map Part.strip).map Part.row),
             .var [.d (.sc (.string xu)), .d (.sc (.int .i64 xk)), .d (.sc (.int .i64 xd)), .d (.list (xr.map Rule.row))], .var [.d (.sc (.string ⟨#[]⟩)), .d (.sc (.int .i64 xk)), .d (.sc (.int .i64 xd)), .arr 8 0 (done2.map Rule.row).length], .arr 0 false 3 (done2.map Rule.row)]) → _) ?_
        intro rest2
        induction rest2 with
        | nil =>
          intro done2 j2 hl2 hj2
          have hlen2 : xr.length = done2.length := by rw [hl2]; simp
          have hdd : done2 = xr := by rw [hl2]; simp
          subst hdd
          refine wR (gI ?_)
          repeat' (first
    | ((first | refine gC fits mixed ?_ | refine gC0 fits mixed ?_ | refine gO fits mixed ?_ | refine gR fits mixed ?_); (conv => whnf); first | (refine ⟨fun hb => ?_, fun hb => ?_⟩ <;> try first | (simp only [Bool.not_true, Bool.not_false, Bool.true_eq_false, Bool.false_eq_true, reduceCtorEq] at hb; done) | (simp only [decide_eq_true_eq, decide_eq_false_iff_not, beq_iff_eq, beq_eq_false_iff_ne, bne_iff_ne, bne_eq_false_iff_eq, ne_eq, List.length_map, List.length_cons, List.length_nil, List.length_append, Bool.not_eq_true', Bool.not_eq_false'] at hb; exfalso; omega) | (exfalso; simp [ba_beq, IntKind.wrap, IntKind.bits, IntKind.signed] at hb; done)) | (show W _ _ _ _ _) | (show ∀ k, WL _ _ _ k _ _ _) | (show ∀ k, DL _ _ _ k _ _ _ _) | (show RoundEnd _ _ _ _ _) | refine fR ?_ | (show _ ∧ Go.Am.Fin _ _ _ _ _ _))
    | (show ∀ k, WL _ _ _ k _ _ _; first | refine fun k => lSA fits (oW ?_ _) | refine fun k => lL fits (oW ?_ _) | refine fun k => lQ fits (oW ?_ _) | refine fun k => lX fits (oW ?_ _) | refine fun k => lXa fits (oW ?_ _) | refine fun k => lK fits (oW ?_ _) | refine fun k => lKa fits (oW ?_ _) | refine fun k => lLk fits (oW ?_ _) | refine fun k => lUp fits (oW ?_ _) | refine fun k => lDel fits (oW ?_ _) | refine fun k => lSt fits (oW ?_ _) | refine fun k => lLU fits (oW ?_ _) | refine fun k => lM fits (oW ?_ _) | refine fun k => lA fits (oW ?_ _) | refine fun k => lA0 fits (oW ?_ _) | refine fun k => lA1 fits (oW ?_ _) | refine fun k => lMk fits (oW ?_ _) | refine fun k => lW fits (oW ?_ _))
    | (show ∀ k, DL _ _ _ k _ _ _ _; first | refine fun k => dSA fits (oD ?_ _) | refine fun k => dL fits (oD ?_ _) | refine fun k => dQ fits (oD ?_ _) | refine fun k => dX fits (oD ?_ _) | refine fun k => dK fits (oD ?_ _) | refine fun k => dKa fits (oD ?_ _) | refine fun k => dLk fits (oD ?_ _) | refine fun k => dUp fits (oD ?_ _) | refine fun k => dA fits (oD ?_ _) | refine fun k => dA0 fits (oD ?_ _) | refine fun k => dSt fits (oD ?_ _) | refine fun k => dLU fits (oD ?_ _) | refine fun k => dM fits (oD ?_ _) | refine fun k => dN fits (oD ?_ _) | refine fun k => dW fits (oD ?_ _)))
          have g := ih (done ++ [⟨xu, ⟨xk, xd⟩, done2⟩]) (IntKind.wrap .i64 (j + 1)) (by rw [hl1]; simp) (by rw [wrap_ok (by omega) (by omega)]; simp [hj])
          rw [List.map_append, List.map_append] at g
          exact rE g (ht := trimI rfl (under10 (pure_m _) (pure_w _) (pure_k _)))
        | cons y rest2 ih2 =>
          intro done2 j2 hl2 hj2
          have hlen2 : xr.length = done2.length + (rest2.length + 1) := by rw [hl2]; simp
          have hyo : y.ok := hxo.2 y (by rw [hl2]; simp)
          have hc := copyR y hyo
          have hxl := hxo.1
          simp only at hxl
          obtain ⟨yc, yp, yq⟩ := y
          refine wR (gI ?_)
          repeat' (first
    | ((first | refine gC fits mixed ?_ | refine gC0 fits mixed ?_ | refine gO fits mixed ?_ | refine gR fits mixed ?_); (conv => whnf); first | (refine ⟨fun hb => ?_, fun hb => ?_⟩ <;> try first | (simp only [Bool.not_true, Bool.not_false, Bool.true_eq_false, Bool.false_eq_true, reduceCtorEq] at hb; done) | (simp only [decide_eq_true_eq, decide_eq_false_iff_not, beq_iff_eq, beq_eq_false_iff_ne, bne_iff_ne, bne_eq_false_iff_eq, ne_eq, List.length_map, List.length_cons, List.length_nil, List.length_append, Bool.not_eq_true', Bool.not_eq_false'] at hb; exfalso; omega) | (exfalso; simp [ba_beq, IntKind.wrap, IntKind.bits, IntKind.signed] at hb; done)) | (show W _ _ _ _ _) | (show ∀ k, WL _ _ _ k _ _ _) | (show ∀ k, DL _ _ _ k _ _ _ _) | (show RoundEnd _ _ _ _ _) | refine fR ?_ | (show _ ∧ Go.Am.Fin _ _ _ _ _ _))
    | (show ∀ k, WL _ _ _ k _ _ _; first | refine fun k => lC (hc) (oW ?_ _) | refine fun k => lSA fits (oW ?_ _) | refine fun k => lL fits (oW ?_ _) | refine fun k => lQ fits (oW ?_ _) | refine fun k => lX fits (oW ?_ _) | refine fun k => lXa fits (oW ?_ _) | refine fun k => lK fits (oW ?_ _) | refine fun k => lKa fits (oW ?_ _) | refine fun k => lLk fits (oW ?_ _) | refine fun k => lUp fits (oW ?_ _) | refine fun k => lDel fits (oW ?_ _) | refine fun k => lSt fits (oW ?_ _) | refine fun k => lLU fits (oW ?_ _) | refine fun k => lM fits (oW ?_ _) | refine fun k => lA fits (oW ?_ _) | refine fun k => lA0 fits (oW ?_ _) | refine fun k => lA1 fits (oW ?_ _) | refine fun k => lMk fits (oW ?_ _) | refine fun k => lW fits (oW ?_ _))
    | (show ∀ k, DL _ _ _ k _ _ _ _; first | refine fun k => dC (hc) (oD ?_ _) | refine fun k => dSA fits (oD ?_ _) | refine fun k => dL fits (oD ?_ _) | refine fun k => dQ fits (oD ?_ _) | refine fun k => dX fits (oD ?_ _) | refine fun k => dK fits (oD ?_ _) | refine fun k => dKa fits (oD ?_ _) | refine fun k => dLk fits (oD ?_ _) | refine fun k => dUp fits (oD ?_ _) | refine fun k => dA fits (oD ?_ _) | refine fun k => dA0 fits (oD ?_ _) | refine fun k => dSt fits (oD ?_ _) | refine fun k => dLU fits (oD ?_ _) | refine fun k => dM fits (oD ?_ _) | refine fun k => dN fits (oD ?_ _) | refine fun k => dW fits (oD ?_ _)))
          have g := ih2 (done2 ++ [⟨yc, yp, yq⟩]) (IntKind.wrap .i64 (j2 + 1)) (by rw [hl2]; simp) (by rw [wrap_ok (by omega) (by omega)]; simp [hj2])
          rw [List.map_append] at g
          exact rE g (ht := trimI rfl (under9 (pure_m _) (pure_w _) (pure_k _)))
    | cons x rest ih =>
      intro done j s hl1 hj hq hs hw hall
      have hlen : names.length = done.length + (rest.length + 1) := by subst hl1; simp
      have hmm : ∀ p ∈ polsM l, p.2.length * 56 ≤ 2 ^ 47 := by
        intro p hp
        obtain ⟨q, hq, rfl⟩ := List.mem_map.1 hp
        exact hm q hq
      have hc := policyR (polsM l) hmm (l.length + 1) s x hs (by have := room_le (polsM l) s.within; simp [polsM] at this ⊢; omega)
      have hg := polF_good (polsM l) (l.length + 1) s x hs
      have hga := polF_alls (P := Part.ok) (polsM l) (by intro p hp; obtain ⟨q, hq, rfl⟩ := List.mem_map.1 hp; exact hr q hq) (l.length + 1) s x hall
      have hq' : namesF (polF (polsM l) (l.length + 1)) s (x :: rest) = (if (polF (polsM l) (l.length + 1) s x).1 = 0 then namesF (polF (polsM l) (l.length + 1)) (polF (polsM l) (l.length + 1) s x).2 rest else polF (polsM l) (l.length + 1) s x) := rfl
      rw [hq'] at hq
      generalize (polF (polsM l) (l.length + 1) s x) = q at hc hg hga hq hq'
      refine wR (gI ?_)
      repeat' (first
    | refine fR ?_ (h6 := under6 (pure_m _) (pure_w _) (pure_k _))
    | ((first | refine gC fits mixed ?_ | refine gC0 fits mixed ?_ | refine gO fits mixed ?_ | refine gR fits mixed ?_); (conv => whnf); first | (refine ⟨fun hb => ?_, fun hb => ?_⟩ <;> try first | (simp only [Bool.not_true, Bool.not_false, Bool.true_eq_false, Bool.false_eq_true, reduceCtorEq] at hb; done) | (simp only [decide_eq_true_eq, decide_eq_false_iff_not, beq_iff_eq, beq_eq_false_iff_ne, bne_iff_ne, bne_eq_false_iff_eq, ne_eq, List.length_map, List.length_cons, List.length_nil, List.length_append, Bool.not_eq_true', Bool.not_eq_false'] at hb; exfalso; omega) | (exfalso; simp [ba_beq, IntKind.wrap, IntKind.bits, IntKind.signed] at hb; done)) | (show W _ _ _ _ _) | (show ∀ k, WL _ _ _ k _ _ _) | (show ∀ k, DL _ _ _ k _ _ _ _) | (show RoundEnd _ _ _ _ _) | refine fR ?_ | (show _ ∧ Go.Am.Fin _ _ _ _ _ _))
    | (show ∀ k, WL _ _ _ k _ _ _; first | refine fun k => WL.crp [0, 1, 2, 3, 4] (stF (polsM l) s) _ _ hc (oW ?_ _) (under6 (pure_m _) (pure_w _) (pure_k _)) (under7 (pure_m _) (pure_w _) (pure_k _)) | refine fun k => lSA fits (oW ?_ _) | refine fun k => lL fits (oW ?_ _) | refine fun k => lQ fits (oW ?_ _) | refine fun k => lX fits (oW ?_ _) | refine fun k => lXa fits (oW ?_ _) | refine fun k => lK fits (oW ?_ _) | refine fun k => lKa fits (oW ?_ _) | refine fun k => lLk fits (oW ?_ _) | refine fun k => lUp fits (oW ?_ _) | refine fun k => lDel fits (oW ?_ _) | refine fun k => lSt fits (oW ?_ _) | refine fun k => lLU fits (oW ?_ _) | refine fun k => lM fits (oW ?_ _) | refine fun k => lA fits (oW ?_ _) | refine fun k => lA0 fits (oW ?_ _) | refine fun k => lA1 fits (oW ?_ _) | refine fun k => lMk fits (oW ?_ _) | refine fun k => lW fits (oW ?_ _))
    | (show ∀ k, DL _ _ _ k _ _ _ _; first | refine fun k => dSA fits (oD ?_ _) | refine fun k => dL fits (oD ?_ _) | refine fun k => dQ fits (oD ?_ _) | refine fun k => dX fits (oD ?_ _) | refine fun k => dK fits (oD ?_ _) | refine fun k => dKa fits (oD ?_ _) | refine fun k => dLk fits (oD ?_ _) | refine fun k => dUp fits (oD ?_ _) | refine fun k => dA fits (oD ?_ _) | refine fun k => dA0 fits (oD ?_ _) | refine fun k => dSt fits (oD ?_ _) | refine fun k => dLU fits (oD ?_ _) | refine fun k => dM fits (oD ?_ _) | refine fun k => dN fits (oD ?_ _) | refine fun k => dW fits (oD ?_ _)))
      · have hz : q.1 ≠ 0 := by simpa using hb
        rw [if_neg hz] at hq
        exact ⟨by simp only [flatF, hdf, hq, if_neg hz]; rfl, rfl⟩
      · have hz : q.1 = 0 := by simpa using hb
        rw [if_pos hz] at hq
        have hg := hg hz
        refine rE (ih (done ++ [x]) _ q.2 (by rw [hl1]; simp) ?_ hq hg.1 (by rw [hg.2.1, hw]) hga) (ht := trimI rfl (under6 (pure_m _) (pure_w _) (pure_k _)))
        rw [wrap_ok (by omega) (by omega)]; simp [hj]
  | cons x rest ih =>
    intro done j hl1 hj hd
    have hlen : l.length = done.length + (rest.length + 1) := by subst hl1; simp
    obtain ⟨nm, ps⟩ := x
    rcases h1 : fk nm (polsM done) 0 with _ | ⟨i1, ps'⟩
    · have k1 : findKey (.string nm) (entsM (polsM done)) 0 = some none := by rw [findKey_m, h1]; rfl
      refine wR (gI ?_)
      repeat' (first
    | refine fR ?_ (h6 := under6 (pure_m _) (pure_w _) (pure_k _))
    | ((first | refine gC fits mixed ?_ | refine gC0 fits mixed ?_ | refine gO fits mixed ?_ | refine gR fits mixed ?_); (conv => whnf); first | (refine ⟨fun hb => ?_, fun hb => ?_⟩ <;> try first | (simp only [Bool.not_true, Bool.not_false, Bool.true_eq_false, Bool.false_eq_true, reduceCtorEq] at hb; done) | (simp only [decide_eq_true_eq, decide_eq_false_iff_not, beq_iff_eq, beq_eq_false_iff_ne, bne_iff_ne, bne_eq_false_iff_eq, ne_eq, List.length_map, List.length_cons, List.length_nil, List.length_append, Bool.not_eq_true', Bool.not_eq_false'] at hb; exfalso; omega) | (exfalso; simp [ba_beq, IntKind.wrap, IntKind.bits, IntKind.signed] at hb; done)) | (show W _ _ _ _ _) | (show ∀ k, WL _ _ _ k _ _ _) | (show ∀ k, DL _ _ _ k _ _ _ _) | (show RoundEnd _ _ _ _ _) | refine fR ?_ | (show _ ∧ Go.Am.Fin _ _ _ _ _ _))
    | (show ∀ k, WL _ _ _ k _ _ _; first | refine fun k => lSA fits (oW ?_ _) | refine fun k => lL fits (oW ?_ _) | refine fun k => lQ fits (oW ?_ _) | refine fun k => lX fits (oW ?_ _) | refine fun k => lXa fits (oW ?_ _) | refine fun k => lK fits (oW ?_ _) | refine fun k => lKa fits (oW ?_ _) | refine fun k => lLk fits (oW ?_ _) | refine fun k => lUp fits (oW ?_ _) | refine fun k => lDel fits (oW ?_ _) | refine fun k => lSt fits (oW ?_ _) | refine fun k => lLU fits (oW ?_ _) | refine fun k => lM fits (oW ?_ _) | refine fun k => lA fits (oW ?_ _) | refine fun k => lA0 fits (oW ?_ _) | refine fun k => lA1 fits (oW ?_ _) | refine fun k => lMk fits (oW ?_ _) | refine fun k => lW fits (oW ?_ _))
    | (show ∀ k, DL _ _ _ k _ _ _ _; first | refine fun k => dSA fits (oD ?_ _) | refine fun k => dL fits (oD ?_ _) | refine fun k => dQ fits (oD ?_ _) | refine fun k => dX fits (oD ?_ _) | refine fun k => dK fits (oD ?_ _) | refine fun k => dKa fits (oD ?_ _) | refine fun k => dLk fits (oD ?_ _) | refine fun k => dUp fits (oD ?_ _) | refine fun k => dA fits (oD ?_ _) | refine fun k => dA0 fits (oD ?_ _) | refine fun k => dSt fits (oD ?_ _) | refine fun k => dLU fits (oD ?_ _) | refine fun k => dM fits (oD ?_ _) | refine fun k => dN fits (oD ?_ _) | refine fun k => dW fits (oD ?_ _)))
      have g := ih (done ++ [⟨nm, ps⟩]) (IntKind.wrap .i64 (j + 1)) (by rw [hl1]; simp) (by rw [wrap_ok (by omega) (by omega)]; simp [hj]) (by rw [hd, polsM_app']; simp only [dup, h1]; rfl)
      rw [polsM_app] at g
      exact rE g (ht := trimI rfl (under6 (by intro L; simp only [mapSet, List.all_append, pure_m _ L, List.all_cons, List.all_nil]; rfl) (pure_w _) (pure_k _)))
    · have k1 : findKey (.string nm) (entsM (polsM done)) 0 = some (some (i1, encP ps' nm)) := by rw [findKey_m, h1]; rfl
      refine wR (gI ?_)
      repeat' (first
    | refine fR ?_ (h6 := under6 (pure_m _) (pure_w _) (pure_k _))
    | ((first | refine gC fits mixed ?_ | refine gC0 fits mixed ?_ | refine gO fits mixed ?_ | refine gR fits mixed ?_); (conv => whnf); first | (refine ⟨fun hb => ?_, fun hb => ?_⟩ <;> try first | (simp only [Bool.not_true, Bool.not_false, Bool.true_eq_false, Bool.false_eq_true, reduceCtorEq] at hb; done) | (simp only [decide_eq_true_eq, decide_eq_false_iff_not, beq_iff_eq, beq_eq_false_iff_ne, bne_iff_ne, bne_eq_false_iff_eq, ne_eq, List.length_map, List.length_cons, List.length_nil, List.length_append, Bool.not_eq_true', Bool.not_eq_false'] at hb; exfalso; omega) | (exfalso; simp [ba_beq, IntKind.wrap, IntKind.bits, IntKind.signed] at hb; done)) | (show W _ _ _ _ _) | (show ∀ k, WL _ _ _ k _ _ _) | (show ∀ k, DL _ _ _ k _ _ _ _) | (show RoundEnd _ _ _ _ _) | refine fR ?_ | (show _ ∧ Go.Am.Fin _ _ _ _ _ _))
    | (show ∀ k, WL _ _ _ k _ _ _; first | refine fun k => lSA fits (oW ?_ _) | refine fun k => lL fits (oW ?_ _) | refine fun k => lQ fits (oW ?_ _) | refine fun k => lX fits (oW ?_ _) | refine fun k => lXa fits (oW ?_ _) | refine fun k => lK fits (oW ?_ _) | refine fun k => lKa fits (oW ?_ _) | refine fun k => lLk fits (oW ?_ _) | refine fun k => lUp fits (oW ?_ _) | refine fun k => lDel fits (oW ?_ _) | refine fun k => lSt fits (oW ?_ _) | refine fun k => lLU fits (oW ?_ _) | refine fun k => lM fits (oW ?_ _) | refine fun k => lA fits (oW ?_ _) | refine fun k => lA0 fits (oW ?_ _) | refine fun k => lA1 fits (oW ?_ _) | refine fun k => lMk fits (oW ?_ _) | refine fun k => lW fits (oW ?_ _))
    | (show ∀ k, DL _ _ _ k _ _ _ _; first | refine fun k => dSA fits (oD ?_ _) | refine fun k => dL fits (oD ?_ _) | refine fun k => dQ fits (oD ?_ _) | refine fun k => dX fits (oD ?_ _) | refine fun k => dK fits (oD ?_ _) | refine fun k => dKa fits (oD ?_ _) | refine fun k => dLk fits (oD ?_ _) | refine fun k => dUp fits (oD ?_ _) | refine fun k => dA fits (oD ?_ _) | refine fun k => dA0 fits (oD ?_ _) | refine fun k => dSt fits (oD ?_ _) | refine fun k => dLU fits (oD ?_ _) | refine fun k => dM fits (oD ?_ _) | refine fun k => dN fits (oD ?_ _) | refine fun k => dW fits (oD ?_ _)))
      have hdt : dup [] l = true := by rw [hd]; simp only [dup, h1]; rfl
      exact ⟨by simp only [flatF, hdt]; rfl, rfl⟩
end Go.Proofs.Ytfbocpbeogkapaa
