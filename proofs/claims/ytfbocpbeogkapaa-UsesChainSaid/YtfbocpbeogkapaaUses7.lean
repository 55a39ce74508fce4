/- A part of a proof: functions of the program, walked over the abstract machine. -/
import Derived.Test.YtfbocpbeogkapaaUses6
set_option linter.unusedVariables false
set_option linter.unusedSimpArgs false
namespace Go.Proofs.Ytfbocpbeogkapaa
open Go Go.Am Go.Proofs
attribute [local irreducible] W WL DL WO RoundEnd
set_option maxRecDepth 10000
set_option maxHeartbeats 4000000
theorem fk_mem {α : Type} {k : ByteArray} {l : AL α} {j : Nat} {v : α} (h : fk k l 0 = some (j, v)) : (k, v) ∈ l := by
  obtain ⟨n, _, h2⟩ := fk_spec h
  exact List.mem_of_getElem? h2
theorem cutR (s0 out : List Part) : ((out.map Part.row).take ((none : Option Int).getD ((out.map Part.row).length : Int)).toNat).drop ((some ((s0.map Part.row).length : Int)).getD 0).toNat = (out.drop s0.length).map Part.row := by
  have h1 : ((some ((s0.map Part.row).length : Int)).getD 0).toNat = s0.length := by simp
  have h2 : ((none : Option Int).getD ((out.map Part.row).length : Int)).toNat = (out.map Part.row).length := by simp
  rw [h1, h2, List.take_length, List.map_drop]
theorem trimI {n : Nat} {e : Env} {σ : St} (h1 : (e.all fun p => p.2.under (alive (σ.take n))) = true) (h2 : ((σ.take n).all fun o => o.under (alive (σ.take n))) = true) : trims n e σ = true := by
  rw [trims, h1, h2]; rfl
theorem under8 {E1 E2 E3 : MapE} (h1 : pureE E1) (h2 : pureE E2) (h3 : pureE E3) {n ep ep' k : Nat} {m : Bool} {rows : List (List D)} {ds : List D} :
    ([Ob.map E1, .map E2, .map E3, .var [.map 0, .map 1, .map 2, .arr 4 ep n], .arr ep' m k rows, .var (ds.map .d)].all fun o => o.under (alive [Ob.map E1, .map E2, .map E3, .var [.map 0, .map 1, .map 2, .arr 4 ep n], .arr ep' m k rows, .var (ds.map .d)])) = true := by
  have hv : ∀ (L : Nat → Bool) (l : List D), underAll L (l.map .d) = true := by
    intro L l
    induction l with
    | nil => rfl
    | cons x r ih => simp only [List.map_cons, underAll, Cell.under, ih]; rfl
  simp only [List.all_cons, List.all_nil, Ob.under, h1 _, h2 _, h3 _, hv, Bool.true_and, Bool.and_true]
  rfl
theorem policyR (m : AL (List Part)) (hm : ∀ p ∈ m, p.2.length * 56 ≤ 2 ^ 47) : ∀ (n : Nat) (s : Fl) (name : ByteArray), s.ok → room m s.within < n →
    Am.Spec Try.prog 26 [.one (.ptr 3 0), str name] (stF m s) (fun x s' => x = int .i64 (polF m n s name).1 ∧ s' = stF m (polF m n s name).2) := by
  intro n
  induction n with
  | zero => intro s name _ h; omega
  | succ n IH =>
  intro s name hs hn
  rcases h1 : fk name m 0 with _ | ⟨i1, ps⟩
  · have k1 : findKey (.string name) (entsM m) 0 = some none := by rw [findKey_m, h1]; rfl
    have hpol : polF m (n + 1) s name = (7, s) := by simp only [polF, h1]
    rw [hpol]
    refine Spec.body (C := cx [] 86) fits (fn := Try.f26) Try.func26 rfl (by decide) (by decide) (gI ?_)
    repeat' (first
    | refine fR ?_ (h6 := under6 (pure_m _) (pure_w _) (pure_k _))
    | ((first | refine gC fits mixed ?_ | refine gC0 fits mixed ?_ | refine gO fits mixed ?_ | refine gR fits mixed ?_); (conv => whnf); first | (refine ⟨fun hb => ?_, fun hb => ?_⟩ <;> try first | (simp only [Bool.not_true, Bool.not_false, Bool.true_eq_false, Bool.false_eq_true, reduceCtorEq] at hb; done) | (simp only [decide_eq_true_eq, decide_eq_false_iff_not, beq_iff_eq, beq_eq_false_iff_ne, bne_iff_ne, bne_eq_false_iff_eq, ne_eq, List.length_map, List.length_cons, List.length_nil, List.length_append, Bool.not_eq_true', Bool.not_eq_false'] at hb; exfalso; omega) | (exfalso; simp [ba_beq, IntKind.wrap, IntKind.bits, IntKind.signed] at hb; done)) | (show W _ _ _ _ _) | (show ∀ k, WL _ _ _ k _ _ _) | (show ∀ k, DL _ _ _ k _ _ _ _) | (show RoundEnd _ _ _ _ _) | refine fR ?_ | (show _ ∧ Go.Am.Fin _ _ _ _ _ _))
    | (show ∀ k, WL _ _ _ k _ _ _; first | refine fun k => lSA fits (oW ?_ _) | refine fun k => lL fits (oW ?_ _) | refine fun k => lQ fits (oW ?_ _) | refine fun k => lX fits (oW ?_ _) | refine fun k => lXa fits (oW ?_ _) | refine fun k => lK fits (oW ?_ _) | refine fun k => lKa fits (oW ?_ _) | refine fun k => lLk fits (oW ?_ _) | refine fun k => lUp fits (oW ?_ _) | refine fun k => lDel fits (oW ?_ _) | refine fun k => lSt fits (oW ?_ _) | refine fun k => lLU fits (oW ?_ _) | refine fun k => lM fits (oW ?_ _) | refine fun k => lA fits (oW ?_ _) | refine fun k => lA0 fits (oW ?_ _) | refine fun k => lA1 fits (oW ?_ _) | refine fun k => lMk fits (oW ?_ _) | refine fun k => lW fits (oW ?_ _)))
    exact ⟨rfl, rfl⟩
  have k1 : findKey (.string name) (entsM m) 0 = some (some (i1, encP ps name)) := by rw [findKey_m, h1]; rfl
  rcases h2 : fk name s.within 0 with _ | ⟨i2, w2⟩
  rotate_left
  · have k2 : findKey (.string name) (ents encW s.within) 0 = some (some (i2, encW w2)) := by rw [findKey_ents, h2]; rfl
    have hpol : polF m (n + 1) s name = (5, s) := by simp only [polF, h1, h2]
    rw [hpol]
    refine Spec.body (C := cx [] 86) fits (fn := Try.f26) Try.func26 rfl (by decide) (by decide) (gI ?_)
    repeat' (first
    | refine fR ?_ (h6 := under6 (pure_m _) (pure_w _) (pure_k _))
    | ((first | refine gC fits mixed ?_ | refine gC0 fits mixed ?_ | refine gO fits mixed ?_ | refine gR fits mixed ?_); (conv => whnf); first | (refine ⟨fun hb => ?_, fun hb => ?_⟩ <;> try first | (simp only [Bool.not_true, Bool.not_false, Bool.true_eq_false, Bool.false_eq_true, reduceCtorEq] at hb; done) | (simp only [decide_eq_true_eq, decide_eq_false_iff_not, beq_iff_eq, beq_eq_false_iff_ne, bne_iff_ne, bne_eq_false_iff_eq, ne_eq, List.length_map, List.length_cons, List.length_nil, List.length_append, Bool.not_eq_true', Bool.not_eq_false'] at hb; exfalso; omega) | (exfalso; simp [ba_beq, IntKind.wrap, IntKind.bits, IntKind.signed] at hb; done)) | (show W _ _ _ _ _) | (show ∀ k, WL _ _ _ k _ _ _) | (show ∀ k, DL _ _ _ k _ _ _ _) | (show RoundEnd _ _ _ _ _) | refine fR ?_ | (show _ ∧ Go.Am.Fin _ _ _ _ _ _))
    | (show ∀ k, WL _ _ _ k _ _ _; first | refine fun k => lSA fits (oW ?_ _) | refine fun k => lL fits (oW ?_ _) | refine fun k => lQ fits (oW ?_ _) | refine fun k => lX fits (oW ?_ _) | refine fun k => lXa fits (oW ?_ _) | refine fun k => lK fits (oW ?_ _) | refine fun k => lKa fits (oW ?_ _) | refine fun k => lLk fits (oW ?_ _) | refine fun k => lUp fits (oW ?_ _) | refine fun k => lDel fits (oW ?_ _) | refine fun k => lSt fits (oW ?_ _) | refine fun k => lLU fits (oW ?_ _) | refine fun k => lM fits (oW ?_ _) | refine fun k => lA fits (oW ?_ _) | refine fun k => lA0 fits (oW ?_ _) | refine fun k => lA1 fits (oW ?_ _) | refine fun k => lMk fits (oW ?_ _) | refine fun k => lW fits (oW ?_ _)))
    exact ⟨rfl, rfl⟩
  have k2 : findKey (.string name) (ents encW s.within) 0 = some none := by rw [findKey_ents, h2]; rfl
  rcases h3 : fk name s.known 0 with _ | ⟨i3, l3⟩
  rotate_left
  · have k3 : findKey (.string name) (ents encK s.known) 0 = some (some (i3, encK l3)) := by rw [findKey_ents, h3]; rfl
    have hpol : polF m (n + 1) s name = addF s l3 := by simp only [polF, h1, h2, h3]
    rw [hpol]
    have ha := addR (entsM m) (ents encW s.within) (ents encK s.known) (pure_m _) (pure_w _) (pure_k _) s.out l3 (by have := hs.1; omega) (by have := hs.2 _ (fk_mem h3); simp at this; omega)
    refine Spec.body (C := cx [] 86) fits (fn := Try.f26) Try.func26 rfl (by decide) (by decide) (gI ?_)
    repeat' (first
    | refine fR ?_ (h6 := under6 (pure_m _) (pure_w _) (pure_k _))
    | ((first | refine gC fits mixed ?_ | refine gC0 fits mixed ?_ | refine gO fits mixed ?_ | refine gR fits mixed ?_); (conv => whnf); first | (refine ⟨fun hb => ?_, fun hb => ?_⟩ <;> try first | (simp only [Bool.not_true, Bool.not_false, Bool.true_eq_false, Bool.false_eq_true, reduceCtorEq] at hb; done) | (simp only [decide_eq_true_eq, decide_eq_false_iff_not, beq_iff_eq, beq_eq_false_iff_ne, bne_iff_ne, bne_eq_false_iff_eq, ne_eq, List.length_map, List.length_cons, List.length_nil, List.length_append, Bool.not_eq_true', Bool.not_eq_false'] at hb; exfalso; omega) | (exfalso; simp [ba_beq, IntKind.wrap, IntKind.bits, IntKind.signed] at hb; done)) | (show W _ _ _ _ _) | (show ∀ k, WL _ _ _ k _ _ _) | (show ∀ k, DL _ _ _ k _ _ _ _) | (show RoundEnd _ _ _ _ _) | refine fR ?_ | (show _ ∧ Go.Am.Fin _ _ _ _ _ _))
    | (show ∀ k, WL _ _ _ k _ _ _; first | refine fun k => WL.crp [0, 1, 2, 3, 4] (stF m s) _ _ ha (oW ?_ _) (under6 (pure_m _) (pure_w _) (pure_k _)) (under7 (pure_m _) (pure_w _) (pure_k _)) | refine fun k => lSA fits (oW ?_ _) | refine fun k => lL fits (oW ?_ _) | refine fun k => lQ fits (oW ?_ _) | refine fun k => lX fits (oW ?_ _) | refine fun k => lXa fits (oW ?_ _) | refine fun k => lK fits (oW ?_ _) | refine fun k => lKa fits (oW ?_ _) | refine fun k => lLk fits (oW ?_ _) | refine fun k => lUp fits (oW ?_ _) | refine fun k => lDel fits (oW ?_ _) | refine fun k => lSt fits (oW ?_ _) | refine fun k => lLU fits (oW ?_ _) | refine fun k => lM fits (oW ?_ _) | refine fun k => lA fits (oW ?_ _) | refine fun k => lA0 fits (oW ?_ _) | refine fun k => lA1 fits (oW ?_ _) | refine fun k => lMk fits (oW ?_ _) | refine fun k => lW fits (oW ?_ _)))
    exact ⟨rfl, rfl⟩
  have k3 : findKey (.string name) (ents encK s.known) 0 = some none := by rw [findKey_ents, h3]; rfl
  refine Spec.body (C := cx [] 86) fits (fn := Try.f26) Try.func26 rfl (by decide) (by decide) (gI ?_)
  repeat' (first
    | refine fR ?_ (h6 := under6 (pure_m _) (pure_w _) (pure_k _))
    | ((first | refine gC fits mixed ?_ | refine gC0 fits mixed ?_ | refine gO fits mixed ?_ | refine gR fits mixed ?_); (conv => whnf); first | (refine ⟨fun hb => ?_, fun hb => ?_⟩ <;> try first | (simp only [Bool.not_true, Bool.not_false, Bool.true_eq_false, Bool.false_eq_true, reduceCtorEq] at hb; done) | (simp only [decide_eq_true_eq, decide_eq_false_iff_not, beq_iff_eq, beq_eq_false_iff_ne, bne_iff_ne, bne_eq_false_iff_eq, ne_eq, List.length_map, List.length_cons, List.length_nil, List.length_append, Bool.not_eq_true', Bool.not_eq_false'] at hb; exfalso; omega) | (exfalso; simp [ba_beq, IntKind.wrap, IntKind.bits, IntKind.signed] at hb; done)) | (show W _ _ _ _ _) | (show ∀ k, WL _ _ _ k _ _ _) | (show ∀ k, DL _ _ _ k _ _ _ _) | (show RoundEnd _ _ _ _ _) | refine fR ?_ | (show _ ∧ Go.Am.Fin _ _ _ _ _ _))
    | (show ∀ k, WL _ _ _ k _ _ _; first | refine fun k => lSA fits (oW ?_ _) | refine fun k => lL fits (oW ?_ _) | refine fun k => lQ fits (oW ?_ _) | refine fun k => lX fits (oW ?_ _) | refine fun k => lXa fits (oW ?_ _) | refine fun k => lK fits (oW ?_ _) | refine fun k => lKa fits (oW ?_ _) | refine fun k => lLk fits (oW ?_ _) | refine fun k => lUp fits (oW ?_ _) | refine fun k => lDel fits (oW ?_ _) | refine fun k => lSt fits (oW ?_ _) | refine fun k => lLU fits (oW ?_ _) | refine fun k => lM fits (oW ?_ _) | refine fun k => lA fits (oW ?_ _) | refine fun k => lA0 fits (oW ?_ _) | refine fun k => lA1 fits (oW ?_ _) | refine fun k => lMk fits (oW ?_ _) | refine fun k => lW fits (oW ?_ _)))
  have hps := hm (name, ps) (fk_mem h1)
  simp only at hps
  have hroom : room m (s.within ++ [(name, ())]) < n := by have := room_lt h1 h2; omega
  have hpol : polF m (n + 1) s name = (if (partsF (polF m n) { s with within := s.within ++ [(name, ())] } ps).1 = 0 then (0, { within := delK (partsF (polF m n) { s with within := s.within ++ [(name, ())] } ps).2.within name, known := setK (partsF (polF m n) { s with within := s.within ++ [(name, ())] } ps).2.known name ((partsF (polF m n) { s with within := s.within ++ [(name, ())] } ps).2.out.drop s.out.length), out := (partsF (polF m n) { s with within := s.within ++ [(name, ())] } ps).2.out }) else (partsF (polF m n) { s with within := s.within ++ [(name, ())] } ps)) := by simp only [polF, h1, h2, h3]
  rw [hpol]
  generalize hs0 : ({ s with within := s.within ++ [(name, ())] } : Fl) = s0
  have g0 : s0.within = s.within ++ [(name, ())] := by subst hs0; rfl
  have g1 : s0.known = s.known := by subst hs0; rfl
  have g2 : s0.out = s.out := by subst hs0; rfl
  have g3 : s0.ok := by subst hs0; exact hs
  refine wLoop [0, 1, 4, 5, 9, 56, 57, 58] 6 (ps.length + 1) ?_
  refine (fun key => key ps [] _ s0 _ _ _ rfl rfl (by rw [g0, ents_append]; rfl) (by rw [g1]) (by rw [g2]) rfl g3 g0 (by rw [g2]; exact Nat.le_refl _) :
    (∀ (rest done : List Part) (j : Int) (t : Fl) (E2 E3 : MapE) (out : List Part), ps = done ++ rest → j = done.length → E2 = ents encW t.within → E3 = ents encK t.known → out = t.out → partsF (polF m n) s0 ps = partsF (polF m n) t rest → t.ok → t.within = s.within ++ [(name, ())] → s.out.length ≤ t.out.length →
    WR2 _ _ _ _ _ (rest.length + 1) [(0, .one (.ptr 3 0)), (1, str name), (4, int .i64 0), (5, .one (.ptr 5 0)), (9, int .i64 (s.out.map Part.row).length), (56, lst Part.row ps), (57, int .i64 (ps.map Part.row).length), (58, int .i64 j)]
      [.map (entsM m), .map E2, .map E3, .var [.map 0, .map 1, .map 2, .arr 4 0 (out.map Part.row).length], .arr 0 false 4 (out.map Part.row), .var [.d (.sc (.string name)), .d (.list (ps.map Part.row))]]) → _) ?_
  intro rest
  induction rest with
  | nil =>
    intro done j t E2 E3 out hl hj e2 e3 eo hp ht hw hlen
    subst e2; subst e3; subst eo
    have hp' : partsF (polF m n) t [] = (0, t) := rfl
    rw [hp'] at hp
    have hd : delK t.within name = s.within := by rw [hw]; exact delK_last h2
    rw [hp, if_pos rfl]
    have k4 : findKey (.string name) (ents encW t.within) 0 = some (some (s.within.length, encW ())) := by
      rw [findKey_ents, hw, fk_append (fk_none.1 h2)]; simp [fk]
    have hdl : ps.length = done.length := by subst hl; simp
    have htl := ht.1
    have hdr : (t.out.drop s.out.length).length ≤ 500 := by simp; omega
    rcases h5 : fk name t.known 0 with _ | ⟨i5, l5⟩
    · have k5 : findKey (.string name) (ents encK t.known) 0 = some none := by rw [findKey_ents, h5]; rfl
      refine wR (gI ?_)
      repeat' (first
    | refine fR ?_ (h6 := under6 (pure_m _) (pure_w _) (pure_k _))
    | ((first | refine gC fits mixed ?_ | refine gC0 fits mixed ?_ | refine gO fits mixed ?_ | refine gR fits mixed ?_); (conv => whnf); first | (refine ⟨fun hb => ?_, fun hb => ?_⟩ <;> try first | (simp only [Bool.not_true, Bool.not_false, Bool.true_eq_false, Bool.false_eq_true, reduceCtorEq] at hb; done) | (simp only [decide_eq_true_eq, decide_eq_false_iff_not, beq_iff_eq, beq_eq_false_iff_ne, bne_iff_ne, bne_eq_false_iff_eq, ne_eq, List.length_map, List.length_cons, List.length_nil, List.length_append, Bool.not_eq_true', Bool.not_eq_false'] at hb; exfalso; omega) | (exfalso; simp [ba_beq, IntKind.wrap, IntKind.bits, IntKind.signed] at hb; done)) | (show W _ _ _ _ _) | (show ∀ k, WL _ _ _ k _ _ _) | (show ∀ k, DL _ _ _ k _ _ _ _) | (show RoundEnd _ _ _ _ _) | refine fR ?_ | (show _ ∧ Go.Am.Fin _ _ _ _ _ _))
    | (show ∀ k, WL _ _ _ k _ _ _; first | refine fun k => lSA fits (oW ?_ _) | refine fun k => lL fits (oW ?_ _) | refine fun k => lQ fits (oW ?_ _) | refine fun k => lX fits (oW ?_ _) | refine fun k => lXa fits (oW ?_ _) | refine fun k => lK fits (oW ?_ _) | refine fun k => lKa fits (oW ?_ _) | refine fun k => lLk fits (oW ?_ _) | refine fun k => lUp fits (oW ?_ _) | refine fun k => lDel fits (oW ?_ _) | refine fun k => lSt fits (oW ?_ _) | refine fun k => lLU fits (oW ?_ _) | refine fun k => lM fits (oW ?_ _) | refine fun k => lA fits (oW ?_ _) | refine fun k => lA0 fits (oW ?_ _) | refine fun k => lA1 fits (oW ?_ _) | refine fun k => lMk fits (oW ?_ _) | refine fun k => lW fits (oW ?_ _))
    | (show ∀ k, DL _ _ _ k _ _ _ _; first | refine fun k => dKa fits (oD ?_ _) (hr := cutR _ _) | refine fun k => dSA fits (oD ?_ _) | refine fun k => dL fits (oD ?_ _) | refine fun k => dQ fits (oD ?_ _) | refine fun k => dX fits (oD ?_ _) | refine fun k => dK fits (oD ?_ _) | refine fun k => dKa fits (oD ?_ _) | refine fun k => dLk fits (oD ?_ _) | refine fun k => dUp fits (oD ?_ _) | refine fun k => dA fits (oD ?_ _) | refine fun k => dA0 fits (oD ?_ _) | refine fun k => dSt fits (oD ?_ _) | refine fun k => dLU fits (oD ?_ _) | refine fun k => dM fits (oD ?_ _) | refine fun k => dN fits (oD ?_ _) | refine fun k => dW fits (oD ?_ _)))
      have e1 : mapDel (ents encW t.within) (some (s.within.length, encW ())) = ents encW s.within := by
        show (ents encW t.within).eraseIdx s.within.length = _
        rw [ents_erase, hw, List.eraseIdx_append_of_length_le (Nat.le_refl _)]; simp
      have e2 : mapSet (ents encK t.known) (.string name) (.one (.d (.list ((t.out.drop s.out.length).map Part.row)))) none = ents encK (setK t.known name (t.out.drop s.out.length)) := by
        simp only [setK, h5, mapSet, ents_append]; rfl
      rw [e1, e2]
      refine fR ?_ (h6 := under6 (pure_m _) (pure_w _) (pure_k _))
      refine ⟨rfl, ?_⟩
      show _ = stF m ⟨delK t.within name, _, _⟩
      rw [hd]
    · have k5 : findKey (.string name) (ents encK t.known) 0 = some (some (i5, encK l5)) := by rw [findKey_ents, h5]; rfl
      refine wR (gI ?_)
      repeat' (first
    | refine fR ?_ (h6 := under6 (pure_m _) (pure_w _) (pure_k _))
    | ((first | refine gC fits mixed ?_ | refine gC0 fits mixed ?_ | refine gO fits mixed ?_ | refine gR fits mixed ?_); (conv => whnf); first | (refine ⟨fun hb => ?_, fun hb => ?_⟩ <;> try first | (simp only [Bool.not_true, Bool.not_false, Bool.true_eq_false, Bool.false_eq_true, reduceCtorEq] at hb; done) | (simp only [decide_eq_true_eq, decide_eq_false_iff_not, beq_iff_eq, beq_eq_false_iff_ne, bne_iff_ne, bne_eq_false_iff_eq, ne_eq, List.length_map, List.length_cons, List.length_nil, List.length_append, Bool.not_eq_true', Bool.not_eq_false'] at hb; exfalso; omega) | (exfalso; simp [ba_beq, IntKind.wrap, IntKind.bits, IntKind.signed] at hb; done)) | (show W _ _ _ _ _) | (show ∀ k, WL _ _ _ k _ _ _) | (show ∀ k, DL _ _ _ k _ _ _ _) | (show RoundEnd _ _ _ _ _) | refine fR ?_ | (show _ ∧ Go.Am.Fin _ _ _ _ _ _))
    | (show ∀ k, WL _ _ _ k _ _ _; first | refine fun k => lSA fits (oW ?_ _) | refine fun k => lL fits (oW ?_ _) | refine fun k => lQ fits (oW ?_ _) | refine fun k => lX fits (oW ?_ _) | refine fun k => lXa fits (oW ?_ _) | refine fun k => lK fits (oW ?_ _) | refine fun k => lKa fits (oW ?_ _) | refine fun k => lLk fits (oW ?_ _) | refine fun k => lUp fits (oW ?_ _) | refine fun k => lDel fits (oW ?_ _) | refine fun k => lSt fits (oW ?_ _) | refine fun k => lLU fits (oW ?_ _) | refine fun k => lM fits (oW ?_ _) | refine fun k => lA fits (oW ?_ _) | refine fun k => lA0 fits (oW ?_ _) | refine fun k => lA1 fits (oW ?_ _) | refine fun k => lMk fits (oW ?_ _) | refine fun k => lW fits (oW ?_ _))
    | (show ∀ k, DL _ _ _ k _ _ _ _; first | refine fun k => dKa fits (oD ?_ _) (hr := cutR _ _) | refine fun k => dSA fits (oD ?_ _) | refine fun k => dL fits (oD ?_ _) | refine fun k => dQ fits (oD ?_ _) | refine fun k => dX fits (oD ?_ _) | refine fun k => dK fits (oD ?_ _) | refine fun k => dKa fits (oD ?_ _) | refine fun k => dLk fits (oD ?_ _) | refine fun k => dUp fits (oD ?_ _) | refine fun k => dA fits (oD ?_ _) | refine fun k => dA0 fits (oD ?_ _) | refine fun k => dSt fits (oD ?_ _) | refine fun k => dLU fits (oD ?_ _) | refine fun k => dM fits (oD ?_ _) | refine fun k => dN fits (oD ?_ _) | refine fun k => dW fits (oD ?_ _)))
      have e1 : mapDel (ents encW t.within) (some (s.within.length, encW ())) = ents encW s.within := by
        show (ents encW t.within).eraseIdx s.within.length = _
        rw [ents_erase, hw, List.eraseIdx_append_of_length_le (Nat.le_refl _)]; simp
      have e2 : mapSet (ents encK t.known) (.string name) (.one (.d (.list ((t.out.drop s.out.length).map Part.row)))) (some (i5, encK l5)) = ents encK (setK t.known name (t.out.drop s.out.length)) := by
        simp only [setK, h5, mapSet, ents, List.map_set]; rfl
      rw [e1, e2]
      refine fR ?_ (h6 := under6 (pure_m _) (pure_w _) (pure_k _))
      refine ⟨rfl, ?_⟩
      show _ = stF m ⟨delK t.within name, _, _⟩
      rw [hd]
  | cons x rest ih =>
    intro done j t E2 E3 out hl hj e2 e3 eo hp ht hw hlen
    subst e2; subst e3; subst eo
    have hdl : ps.length = done.length + (rest.length + 1) := by subst hl; simp
    have hc := partR m n t x ht.1 (fun _ => IH t x.use ht (by rw [hw]; exact hroom))
    have hps' : partsF (polF m n) t (x :: rest) = (if (if x.use = ⟨#[]⟩ then addF t [x] else polF m n t x.use).1 = 0 then partsF (polF m n) (if x.use = ⟨#[]⟩ then addF t [x] else polF m n t x.use).2 rest else (if x.use = ⟨#[]⟩ then addF t [x] else polF m n t x.use)) := rfl
    have hgood : (if x.use = ⟨#[]⟩ then addF t [x] else polF m n t x.use).1 = 0 → (if x.use = ⟨#[]⟩ then addF t [x] else polF m n t x.use).2.ok ∧ (if x.use = ⟨#[]⟩ then addF t [x] else polF m n t x.use).2.within = t.within ∧ t.out.length ≤ (if x.use = ⟨#[]⟩ then addF t [x] else polF m n t x.use).2.out.length := by
      by_cases he : x.use = ⟨#[]⟩
      · simp only [if_pos he]; exact addF_good ht
      · simp only [if_neg he]; exact polF_good m n _ _ ht
    rw [hps'] at hp
    obtain ⟨xu, ⟨xk, xd⟩, xr⟩ := x
    generalize (if (Part.mk xu ⟨xk, xd⟩ xr).use = ⟨#[]⟩ then addF t [Part.mk xu ⟨xk, xd⟩ xr] else polF m n t (Part.mk xu ⟨xk, xd⟩ xr).use) = q at hc hp hps' hgood
    refine wR (gI ?_)
    repeat' (first
    | refine fR ?_ (h6 := under6 (pure_m _) (pure_w _) (pure_k _))
    | ((first | refine gC fits mixed ?_ | refine gC0 fits mixed ?_ | refine gO fits mixed ?_ | refine gR fits mixed ?_); (conv => whnf); first | (refine ⟨fun hb => ?_, fun hb => ?_⟩ <;> try first | (simp only [Bool.not_true, Bool.not_false, Bool.true_eq_false, Bool.false_eq_true, reduceCtorEq] at hb; done) | (simp only [decide_eq_true_eq, decide_eq_false_iff_not, beq_iff_eq, beq_eq_false_iff_ne, bne_iff_ne, bne_eq_false_iff_eq, ne_eq, List.length_map, List.length_cons, List.length_nil, List.length_append, Bool.not_eq_true', Bool.not_eq_false'] at hb; exfalso; omega) | (exfalso; simp [ba_beq, IntKind.wrap, IntKind.bits, IntKind.signed] at hb; done)) | (show W _ _ _ _ _) | (show ∀ k, WL _ _ _ k _ _ _) | (show ∀ k, DL _ _ _ k _ _ _ _) | (show RoundEnd _ _ _ _ _) | refine fR ?_ | (show _ ∧ Go.Am.Fin _ _ _ _ _ _))
    | (show ∀ k, WL _ _ _ k _ _ _; first | refine fun k => WL.crp [0, 1, 2, 3, 4] (stF m t) _ _ hc (oW ?_ _) (under6 (pure_m _) (pure_w _) (pure_k _)) (under7 (pure_m _) (pure_w _) (pure_k _)) | refine fun k => lSA fits (oW ?_ _) | refine fun k => lL fits (oW ?_ _) | refine fun k => lQ fits (oW ?_ _) | refine fun k => lX fits (oW ?_ _) | refine fun k => lXa fits (oW ?_ _) | refine fun k => lK fits (oW ?_ _) | refine fun k => lKa fits (oW ?_ _) | refine fun k => lLk fits (oW ?_ _) | refine fun k => lUp fits (oW ?_ _) | refine fun k => lDel fits (oW ?_ _) | refine fun k => lSt fits (oW ?_ _) | refine fun k => lLU fits (oW ?_ _) | refine fun k => lM fits (oW ?_ _) | refine fun k => lA fits (oW ?_ _) | refine fun k => lA0 fits (oW ?_ _) | refine fun k => lA1 fits (oW ?_ _) | refine fun k => lMk fits (oW ?_ _) | refine fun k => lW fits (oW ?_ _)))
    · have hz : q.1 ≠ 0 := by simpa using hb
      rw [if_neg hz] at hp
      rw [hp, if_neg hz]
      exact ⟨rfl, rfl⟩
    · have hz : q.1 = 0 := by simpa using hb
      rw [if_pos hz] at hp
      have hg := hgood hz
      refine rE (ih (done ++ [⟨xu, ⟨xk, xd⟩, xr⟩]) _ q.2 _ _ _ (by rw [hl]; simp) ?_ rfl rfl rfl hp hg.1 (by rw [hg.2.1, hw]) (Nat.le_trans hlen hg.2.2)) (ht := trimI rfl (under8 (ds := [.sc (.string name), .list (ps.map Part.row)]) (pure_m _) (pure_w _) (pure_k _)))
      rw [wrap_ok (by omega) (by omega)]; simp [hj]
end Go.Proofs.Ytfbocpbeogkapaa
