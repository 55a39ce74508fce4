/- A part of a proof: functions of the program walked over the abstract machine, and what they compute. -/
import Derived.Test.YtjjhckmnnaafkaaDoorPWAq
import Derived.Test.YtjjhckmnnaafkaaDoorPWAn
import Derived.Test.YtjjhckmnnaafkaaDoorPWAo
set_option linter.unusedVariables false
set_option linter.unusedSimpArgs false
namespace Go.Proofs.YtjjhckmnnaafkaaDoor
open Go Go.Am Go.Proofs
attribute [local irreducible] W WL DL WO RoundEnd
set_option maxRecDepth 10000
set_option maxHeartbeats 4000000
theorem fk_mem {α : Type} {k : ByteArray} {l : AL α} {j : Nat} {v : α} (h : fk k l 0 = some (j, v)) : (k, v) ∈ l := by
  obtain ⟨n, _, h2⟩ := fk_spec h
  exact List.mem_of_getElem? h2
theorem cutR (s0 out : List Part) : ((out.map Part.row).take ((none : Option Int).getD ((out.map Part.row).length : Int)).toNat).drop ((some ((s0.map Part.row).length : Int)).getD 0).toNat = (out.drop s0.length).map Part.row := by
  have h1 : ((some ((s0.map Part.row).length : Int)).getD 0).toNat = s0.length := by simp
  have h2 : ((none : Option Int).getD ((out.map Part.row).length : Int)).toNat = (out.map Part.row).length := by simp
  rw [h1, h2, List.take_length, List.map_drop]
theorem under8 {E1 E2 E3 : MapE} (h1 : pureE E1) (h2 : pureE E2) (h3 : pureE E3) {n ep ep' k : Nat} {m : Bool} {rows : List (List D)} {ds : List D} :
    ([Ob.map E1, .map E2, .map E3, .var [.map 0, .map 1, .map 2, .arr 4 ep n], .arr ep' m k rows, .var (ds.map .d)].all fun o => o.under (alive [Ob.map E1, .map E2, .map E3, .var [.map 0, .map 1, .map 2, .arr 4 ep n], .arr ep' m k rows, .var (ds.map .d)])) = true := by
  have hv : ∀ (L : Nat → Bool) (l : List D), underAll L (l.map .d) = true := by
    intro L l
    induction l with
    | nil => rfl
    | cons x r ih => simp only [List.map_cons, underAll, Cell.under, ih]; rfl
  simp only [List.all_cons, List.all_nil, Ob.under, h1 _, h2 _, h3 _, hv, Bool.true_and, Bool.and_true]
  rfl
theorem policyR (m : AL (List Part)) (hm : ∀ p ∈ m, p.2.length * 56 ≤ 2 ^ 47) : ∀ (n : Nat) (s : Fl) (name : ByteArray), s.ok → room m s.within < n →
    Am.Spec Tryd.prog 33 [.one (.ptr 3 0), str name] (stF m s) (fun x s' => x = int .i64 (polF m n s name).1 ∧ s' = stF m (polF m n s name).2) := by
  intro n
  induction n with
  | zero => intro s name _ h; omega
  | succ n IH =>
  intro s name hs hn
  rcases h1 : fk name m 0 with _ | ⟨i1, ps⟩
  · have k1 : findKey (.string name) (entsM m) 0 = some none := by rw [findKey_m, h1]; rfl
    have hpol : polF m (n + 1) s name = (7, s) := by simp only [polF, h1]
    rw [hpol]
    refine Spec.body (C := cx [] 86) fits (fn := Tryd.f33) Tryd.func33 rfl (by decide) (by decide) (gI ?_)
    repeat' (first | refine fR ?_ (h6 := under6 (pure_m _) (pure_w _) (pure_k _)) | ((first | refine C_r ?_ | refine C0_r ?_ | refine O_r ?_ | refine R_r ?_); (conv => whnf); first | (refine ⟨fun hb => ?_, fun hb => ?_⟩ <;> try exact no_way) | refine A_o ?_ | refine B_o ?_ | refine C_o ?_ | refine R_o ?_ | refine fR ?_ | refine fRk ?_ | refine F_o ?_) | refine SA_l ?_ | refine V_l ?_ | refine L_l ?_ | refine Q_l ?_ | refine X_l ?_ | refine Xa_l ?_ | refine Xs_l ?_ | refine K_l ?_ | refine Ka_l ?_ | refine Lk_l ?_ | refine Up_l ?_ | refine Del_l ?_ | refine St_l ?_ | refine LU_l ?_ | refine Xw_l ?_ | refine Le_l ?_ | refine Se_l ?_ | refine M_l ?_ | refine A_l ?_ | refine A0_l ?_ | refine A1_l ?_ | refine Mk_l ?_ | refine Kz_l ?_ | refine W_l ?_ | fail)
    exact ⟨rfl, rfl⟩
  have k1 : findKey (.string name) (entsM m) 0 = some (some (i1, encP ps name)) := by rw [findKey_m, h1]; rfl
  rcases h2 : fk name s.within 0 with _ | ⟨i2, w2⟩
  rotate_left
  · have k2 : findKey (.string name) (ents encW s.within) 0 = some (some (i2, encW w2)) := by rw [findKey_ents, h2]; rfl
    have hpol : polF m (n + 1) s name = (5, s) := by simp only [polF, h1, h2]
    rw [hpol]
    refine Spec.body (C := cx [] 86) fits (fn := Tryd.f33) Tryd.func33 rfl (by decide) (by decide) (gI ?_)
    repeat' (first | refine fR ?_ (h6 := under6 (pure_m _) (pure_w _) (pure_k _)) | ((first | refine C_r ?_ | refine C0_r ?_ | refine O_r ?_ | refine R_r ?_); (conv => whnf); first | (refine ⟨fun hb => ?_, fun hb => ?_⟩ <;> try exact no_way) | refine A_o ?_ | refine B_o ?_ | refine C_o ?_ | refine R_o ?_ | refine fR ?_ | refine fRk ?_ | refine F_o ?_) | refine SA_l ?_ | refine V_l ?_ | refine L_l ?_ | refine Q_l ?_ | refine X_l ?_ | refine Xa_l ?_ | refine Xs_l ?_ | refine K_l ?_ | refine Ka_l ?_ | refine Lk_l ?_ | refine Up_l ?_ | refine Del_l ?_ | refine St_l ?_ | refine LU_l ?_ | refine Xw_l ?_ | refine Le_l ?_ | refine Se_l ?_ | refine M_l ?_ | refine A_l ?_ | refine A0_l ?_ | refine A1_l ?_ | refine Mk_l ?_ | refine Kz_l ?_ | refine W_l ?_ | fail)
    exact ⟨rfl, rfl⟩
  have k2 : findKey (.string name) (ents encW s.within) 0 = some none := by rw [findKey_ents, h2]; rfl
  rcases h3 : fk name s.known 0 with _ | ⟨i3, l3⟩
  rotate_left
  · have k3 : findKey (.string name) (ents encK s.known) 0 = some (some (i3, encK l3)) := by rw [findKey_ents, h3]; rfl
    have hpol : polF m (n + 1) s name = addF s l3 := by simp only [polF, h1, h2, h3]
    rw [hpol]
    have ha := addR (entsM m) (ents encW s.within) (ents encK s.known) (pure_m _) (pure_w _) (pure_k _) s.out l3 (by have := hs.1; omega) (by have := hs.2 _ (fk_mem h3); simp at this; omega)
    refine Spec.body (C := cx [] 86) fits (fn := Tryd.f33) Tryd.func33 rfl (by decide) (by decide) (gI ?_)
    repeat' (first | refine fR ?_ (h6 := under6 (pure_m _) (pure_w _) (pure_k _)) | ((first | refine C_r ?_ | refine C0_r ?_ | refine O_r ?_ | refine R_r ?_); (conv => whnf); first | (refine ⟨fun hb => ?_, fun hb => ?_⟩ <;> try exact no_way) | refine A_o ?_ | refine B_o ?_ | refine C_o ?_ | refine R_o ?_ | refine fR ?_ | refine fRk ?_ | refine F_o ?_) | refine fun k => WL.crp [0, 1, 2, 3, 4] (stF m s) _ _ ha (oW ?_ _) (under6 (pure_m _) (pure_w _) (pure_k _)) (under7 (pure_m _) (pure_w _) (pure_k _)) | refine SA_l ?_ | refine V_l ?_ | refine L_l ?_ | refine Q_l ?_ | refine X_l ?_ | refine Xa_l ?_ | refine Xs_l ?_ | refine K_l ?_ | refine Ka_l ?_ | refine Lk_l ?_ | refine Up_l ?_ | refine Del_l ?_ | refine St_l ?_ | refine LU_l ?_ | refine Xw_l ?_ | refine Le_l ?_ | refine Se_l ?_ | refine M_l ?_ | refine A_l ?_ | refine A0_l ?_ | refine A1_l ?_ | refine Mk_l ?_ | refine Kz_l ?_ | refine W_l ?_ | fail)
    exact ⟨rfl, rfl⟩
  have k3 : findKey (.string name) (ents encK s.known) 0 = some none := by rw [findKey_ents, h3]; rfl
  refine Spec.body (C := cx [] 86) fits (fn := Tryd.f33) Tryd.func33 rfl (by decide) (by decide) (gI ?_)
  repeat' (first | refine fR ?_ (h6 := under6 (pure_m _) (pure_w _) (pure_k _)) | ((first | refine C_r ?_ | refine C0_r ?_ | refine O_r ?_ | refine R_r ?_); (conv => whnf); first | (refine ⟨fun hb => ?_, fun hb => ?_⟩ <;> try exact no_way) | refine A_o ?_ | refine B_o ?_ | refine C_o ?_ | refine R_o ?_ | refine fR ?_ | refine fRk ?_ | refine F_o ?_) | refine SA_l ?_ | refine V_l ?_ | refine L_l ?_ | refine Q_l ?_ | refine X_l ?_ | refine Xa_l ?_ | refine Xs_l ?_ | refine K_l ?_ | refine Ka_l ?_ | refine Lk_l ?_ | refine Up_l ?_ | refine Del_l ?_ | refine St_l ?_ | refine LU_l ?_ | refine Xw_l ?_ | refine Le_l ?_ | refine Se_l ?_ | refine M_l ?_ | refine A_l ?_ | refine A0_l ?_ | refine A1_l ?_ | refine Mk_l ?_ | refine Kz_l ?_ | refine W_l ?_ | fail)
  have hps := hm (name, ps) (fk_mem h1)
  simp only at hps
  have hroom : room m (s.within ++ [(name, ())]) < n := by have := room_lt h1 h2; omega
  have hpol : polF m (n + 1) s name = (if (partsF (polF m n) { s with within := s.within ++ [(name, ())] } ps).1 = 0 then (0, { within := delK (partsF (polF m n) { s with within := s.within ++ [(name, ())] } ps).2.within name, known := setK (partsF (polF m n) { s with within := s.within ++ [(name, ())] } ps).2.known name ((partsF (polF m n) { s with within := s.within ++ [(name, ())] } ps).2.out.drop s.out.length), out := (partsF (polF m n) { s with within := s.within ++ [(name, ())] } ps).2.out }) else (partsF (polF m n) { s with within := s.within ++ [(name, ())] } ps)) := by simp only [polF, h1, h2, h3]
  rw [hpol]
  generalize hs0 : ({ s with within := s.within ++ [(name, ())] } : Fl) = s0
  have g0 : s0.within = s.within ++ [(name, ())] := by subst hs0; rfl
  have g1 : s0.known = s.known := by subst hs0; rfl
  have g2 : s0.out = s.out := by subst hs0; rfl
  have g3 : s0.ok := by subst hs0; exact hs
  refine wLoop [0, 1, 4, 5, 9, 56, 57, 58] 6 (ps.length + 1) ?_
  refine (fun key => key ps [] _ s0 _ _ _ rfl rfl (by rw [g0, ents_append]; rfl) (by rw [g1]) (by rw [g2]) rfl g3 g0 (by rw [g2]; exact Nat.le_refl _) :
    (∀ (rest done : List Part) (j : Int) (t : Fl) (E2 E3 : MapE) (out : List Part), ps = done ++ rest → j = done.length → E2 = ents encW t.within → E3 = ents encK t.known → out = t.out → partsF (polF m n) s0 ps = partsF (polF m n) t rest → t.ok → t.within = s.within ++ [(name, ())] → s.out.length ≤ t.out.length →
    WR2 _ _ _ _ _ (rest.length + 1) [(0, .one (.ptr 3 0)), (1, str name), (4, int .i64 0), (5, .one (.ptr 5 0)), (9, int .i64 (s.out.map Part.row).length), (56, lst Part.row ps), (57, int .i64 (ps.map Part.row).length), (58, int .i64 j)]
      [.map (entsM m), .map E2, .map E3, .var [.map 0, .map 1, .map 2, .arr 4 0 (out.map Part.row).length], .arr 0 false 4 (out.map Part.row), .var [.d (.sc (.string name)), .d (.list (ps.map Part.row))]]) → _) ?_
  intro rest
  induction rest with
  | nil =>
    intro done j t E2 E3 out hl hj e2 e3 eo hp ht hw hlen
    subst e2; subst e3; subst eo
    have hp' : partsF (polF m n) t [] = (0, t) := rfl
    rw [hp'] at hp
    have hd : delK t.within name = s.within := by rw [hw]; exact delK_last h2
    rw [hp, if_pos rfl]
    have k4 : findKey (.string name) (ents encW t.within) 0 = some (some (s.within.length, encW ())) := by
      rw [findKey_ents, hw, fk_append (fk_none.1 h2)]; simp [fk]
    have hdl : ps.length = done.length := by subst hl; simp
    have htl := ht.1
    have hdr : (t.out.drop s.out.length).length ≤ 500 := by simp; omega
    rcases h5 : fk name t.known 0 with _ | ⟨i5, l5⟩
    · have k5 : findKey (.string name) (ents encK t.known) 0 = some none := by rw [findKey_ents, h5]; rfl
      refine wR (gI ?_)
      repeat' (first | refine fR ?_ (h6 := under6 (pure_m _) (pure_w _) (pure_k _)) | ((first | refine C_r ?_ | refine C0_r ?_ | refine O_r ?_ | refine R_r ?_); (conv => whnf); first | (refine ⟨fun hb => ?_, fun hb => ?_⟩ <;> try exact no_way) | refine A_o ?_ | refine B_o ?_ | refine C_o ?_ | refine R_o ?_ | refine fR ?_ | refine fRk ?_ | refine F_o ?_) | refine SA_l ?_ | refine V_l ?_ | refine L_l ?_ | refine Q_l ?_ | refine X_l ?_ | refine Xa_l ?_ | refine Xs_l ?_ | refine K_l ?_ | refine Ka_l ?_ | refine Lk_l ?_ | refine Up_l ?_ | refine Del_l ?_ | refine St_l ?_ | refine LU_l ?_ | refine Xw_l ?_ | refine Le_l ?_ | refine Se_l ?_ | refine M_l ?_ | refine A_l ?_ | refine A0_l ?_ | refine A1_l ?_ | refine Mk_l ?_ | refine Kz_l ?_ | refine W_l ?_ | refine fun k => dKa fits (oD ?_ _) (hr := cutR _ _) | refine SA_d ?_ | refine V_d ?_ | refine L_d ?_ | refine Q_d ?_ | refine X_d ?_ | refine Xs_d ?_ | refine K_d ?_ | refine Ka_d ?_ | refine Lk_d ?_ | refine Up_d ?_ | refine A_d ?_ | refine A0_d ?_ | refine St_d ?_ | refine LU_d ?_ | refine Xw_d ?_ | refine Le_d ?_ | refine Se_d ?_ | refine M_d ?_ | refine Mk_d ?_ | refine N_d ?_ | refine Kz_d ?_ | refine W_d ?_ | fail)
      have e1 : mapDel (ents encW t.within) (some (s.within.length, encW ())) = ents encW s.within := by
        show (ents encW t.within).eraseIdx s.within.length = _
        rw [ents_erase, hw, List.eraseIdx_append_of_length_le (Nat.le_refl _)]; simp
      have e2 : mapSet (ents encK t.known) (.string name) (.one (.d (.list ((t.out.drop s.out.length).map Part.row)))) none = ents encK (setK t.known name (t.out.drop s.out.length)) := by
        simp only [setK, h5, mapSet, ents_append]; rfl
      rw [e1, e2]
      refine fR ?_ (h6 := under6 (pure_m _) (pure_w _) (pure_k _))
      refine ⟨rfl, ?_⟩
      show _ = stF m ⟨delK t.within name, _, _⟩
      rw [hd]
    · have k5 : findKey (.string name) (ents encK t.known) 0 = some (some (i5, encK l5)) := by rw [findKey_ents, h5]; rfl
      refine wR (gI ?_)
      repeat' (first | refine fR ?_ (h6 := under6 (pure_m _) (pure_w _) (pure_k _)) | ((first | refine C_r ?_ | refine C0_r ?_ | refine O_r ?_ | refine R_r ?_); (conv => whnf); first | (refine ⟨fun hb => ?_, fun hb => ?_⟩ <;> try exact no_way) | refine A_o ?_ | refine B_o ?_ | refine C_o ?_ | refine R_o ?_ | refine fR ?_ | refine fRk ?_ | refine F_o ?_) | refine SA_l ?_ | refine V_l ?_ | refine L_l ?_ | refine Q_l ?_ | refine X_l ?_ | refine Xa_l ?_ | refine Xs_l ?_ | refine K_l ?_ | refine Ka_l ?_ | refine Lk_l ?_ | refine Up_l ?_ | refine Del_l ?_ | refine St_l ?_ | refine LU_l ?_ | refine Xw_l ?_ | refine Le_l ?_ | refine Se_l ?_ | refine M_l ?_ | refine A_l ?_ | refine A0_l ?_ | refine A1_l ?_ | refine Mk_l ?_ | refine Kz_l ?_ | refine W_l ?_ | refine fun k => dKa fits (oD ?_ _) (hr := cutR _ _) | refine SA_d ?_ | refine V_d ?_ | refine L_d ?_ | refine Q_d ?_ | refine X_d ?_ | refine Xs_d ?_ | refine K_d ?_ | refine Ka_d ?_ | refine Lk_d ?_ | refine Up_d ?_ | refine A_d ?_ | refine A0_d ?_ | refine St_d ?_ | refine LU_d ?_ | refine Xw_d ?_ | refine Le_d ?_ | refine Se_d ?_ | refine M_d ?_ | refine Mk_d ?_ | refine N_d ?_ | refine Kz_d ?_ | refine W_d ?_ | fail)
      have e1 : mapDel (ents encW t.within) (some (s.within.length, encW ())) = ents encW s.within := by
        show (ents encW t.within).eraseIdx s.within.length = _
        rw [ents_erase, hw, List.eraseIdx_append_of_length_le (Nat.le_refl _)]; simp
      have e2 : mapSet (ents encK t.known) (.string name) (.one (.d (.list ((t.out.drop s.out.length).map Part.row)))) (some (i5, encK l5)) = ents encK (setK t.known name (t.out.drop s.out.length)) := by
        simp only [setK, h5, mapSet, ents, List.map_set]; rfl
      rw [e1, e2]
      refine fR ?_ (h6 := under6 (pure_m _) (pure_w _) (pure_k _))
      refine ⟨rfl, ?_⟩
      show _ = stF m ⟨delK t.within name, _, _⟩
      rw [hd]
  | cons x rest ih =>
    intro done j t E2 E3 out hl hj e2 e3 eo hp ht hw hlen
    subst e2; subst e3; subst eo
    have hdl : ps.length = done.length + (rest.length + 1) := by subst hl; simp
    have hc := partR m n t x ht.1 (fun _ => IH t x.use ht (by rw [hw]; exact hroom))
    have hps' : partsF (polF m n) t (x :: rest) = (if (if x.use = ⟨#[]⟩ then addF t [x] else polF m n t x.use).1 = 0 then partsF (polF m n) (if x.use = ⟨#[]⟩ then addF t [x] else polF m n t x.use).2 rest else (if x.use = ⟨#[]⟩ then addF t [x] else polF m n t x.use)) := rfl
    have hgood : (if x.use = ⟨#[]⟩ then addF t [x] else polF m n t x.use).1 = 0 → (if x.use = ⟨#[]⟩ then addF t [x] else polF m n t x.use).2.ok ∧ (if x.use = ⟨#[]⟩ then addF t [x] else polF m n t x.use).2.within = t.within ∧ t.out.length ≤ (if x.use = ⟨#[]⟩ then addF t [x] else polF m n t x.use).2.out.length := by
      by_cases he : x.use = ⟨#[]⟩
      · simp only [if_pos he]; exact addF_good ht
      · simp only [if_neg he]; exact polF_good m n _ _ ht
    rw [hps'] at hp
    obtain ⟨xu, ⟨xk, xd⟩, xr⟩ := x
    generalize (if (Part.mk xu ⟨xk, xd⟩ xr).use = ⟨#[]⟩ then addF t [Part.mk xu ⟨xk, xd⟩ xr] else polF m n t (Part.mk xu ⟨xk, xd⟩ xr).use) = q at hc hp hps' hgood
    refine wR (gI ?_)
    repeat' (first | refine fR ?_ (h6 := under6 (pure_m _) (pure_w _) (pure_k _)) | ((first | refine C_r ?_ | refine C0_r ?_ | refine O_r ?_ | refine R_r ?_); (conv => whnf); first | (refine ⟨fun hb => ?_, fun hb => ?_⟩ <;> try exact no_way) | refine A_o ?_ | refine B_o ?_ | refine C_o ?_ | refine R_o ?_ | refine fR ?_ | refine fRk ?_ | refine F_o ?_) | refine fun k => WL.crp [0, 1, 2, 3, 4] (stF m t) _ _ hc (oW ?_ _) (under6 (pure_m _) (pure_w _) (pure_k _)) (under7 (pure_m _) (pure_w _) (pure_k _)) | refine SA_l ?_ | refine V_l ?_ | refine L_l ?_ | refine Q_l ?_ | refine X_l ?_ | refine Xa_l ?_ | refine Xs_l ?_ | refine K_l ?_ | refine Ka_l ?_ | refine Lk_l ?_ | refine Up_l ?_ | refine Del_l ?_ | refine St_l ?_ | refine LU_l ?_ | refine Xw_l ?_ | refine Le_l ?_ | refine Se_l ?_ | refine M_l ?_ | refine A_l ?_ | refine A0_l ?_ | refine A1_l ?_ | refine Mk_l ?_ | refine Kz_l ?_ | refine W_l ?_ | fail)
    · have hz : q.1 ≠ 0 := by simpa using hb
      rw [if_neg hz] at hp
      rw [hp, if_neg hz]
      exact ⟨rfl, rfl⟩
    · have hz : q.1 = 0 := by simpa using hb
      rw [if_pos hz] at hp
      have hg := hgood hz
      refine rE (ih (done ++ [⟨xu, ⟨xk, xd⟩, xr⟩]) _ q.2 _ _ _ (by rw [hl]; simp) ?_ rfl rfl rfl hp hg.1 (by rw [hg.2.1, hw]) (Nat.le_trans hlen hg.2.2)) (ht := trimI rfl (under8 (ds := [.sc (.string name), .list (ps.map Part.row)]) (pure_m _) (pure_w _) (pure_k _)))
      rw [wrap_ok (by omega) (by omega)]; simp [hj]
end Go.Proofs.YtjjhckmnnaafkaaDoor
namespace Go.Proofs.YtjjhckmnnaafkaaDoor
open Go Go.Am Go.Proofs
attribute [local irreducible] W WL DL WO RoundEnd
set_option maxRecDepth 10000
set_option maxHeartbeats 4000000
/-- policies by name -/
def polsM (l : List Pol) : AL (List Part) := l.map fun p => (p.name, p.parts)
/-- is a name there twice? -/
def dup : AL (List Part) → List Pol → Bool
  | _, [] => false
  | m, x :: r => if (fk x.name m 0).isSome then true else dup (m ++ [(x.name, x.parts)]) r
def namesF (g : Fl → ByteArray → Int × Fl) : Fl → List ByteArray → Int × Fl
  | s, [] => (0, s)
  | s, x :: r => let q := g s x; if q.1 = 0 then namesF g q.2 r else q
/-- a part that uses none -/
def Part.strip (p : Part) : Part := ⟨⟨#[]⟩, p.act, p.rules⟩
def startF : Fl := ⟨[], [], []⟩
def flatF (l : List Pol) (names : List ByteArray) : List Part × Int :=
  if dup [] l then ([], 8)
  else let q := namesF (polF (polsM l) (l.length + 1)) startF names
    if q.1 = 0 then (q.2.out.map Part.strip, 0) else ([], q.1)
/-- all parts are so -/
def Fl.alls (P : Part → Prop) (s : Fl) : Prop := (∀ x ∈ s.out, P x) ∧ ∀ p ∈ s.known, ∀ x ∈ p.2, P x
theorem addF_alls {P : Part → Prop} {s : Fl} {l : List Part} (h : s.alls P) (hl : ∀ x ∈ l, P x) : (addF s l).2.alls P :=
  ⟨fun x hx => by rcases List.mem_append.1 hx with hx | hx; exact h.1 x hx; exact hl x hx, h.2⟩
theorem partsF_alls {P : Part → Prop} {g : Fl → ByteArray → Int × Fl} (hg : ∀ s name, s.alls P → (g s name).2.alls P) : ∀ (l : List Part) (s : Fl), (∀ x ∈ l, P x) → s.alls P → (partsF g s l).2.alls P
  | [], s, _, h => h
  | x :: r, s, hl, h => by
    have h1 : (if x.use = ⟨#[]⟩ then addF s [x] else g s x.use).2.alls P := by
      by_cases he : x.use = ⟨#[]⟩
      · simp only [if_pos he]; exact addF_alls h (by intro y hy; simp at hy; subst hy; exact hl _ (by simp))
      · simp only [if_neg he]; exact hg _ _ h
    simp only [partsF]
    generalize (if x.use = ⟨#[]⟩ then addF s [x] else g s x.use) = q at h1 ⊢
    by_cases hz : q.1 = 0
    · rw [if_pos hz]; exact partsF_alls hg r _ (fun y hy => hl y (by simp [hy])) h1
    · rw [if_neg hz]; exact h1
theorem polF_alls {P : Part → Prop} (m : AL (List Part)) (hm : ∀ p ∈ m, ∀ x ∈ p.2, P x) : ∀ (n : Nat) (s : Fl) (name : ByteArray), s.alls P → (polF m n s name).2.alls P
  | 0, s, _, h => h
  | n + 1, s, name, h => by
    simp only [polF]
    split
    · exact h
    · rename_i ps h1
      have hps := hm _ (fk_mem h1)
      split
      · exact h
      · split
        · rename_i h3; exact addF_alls h (h.2 _ (fk_mem h3))
        · have h2 := partsF_alls (polF_alls m hm n) ps { s with within := s.within ++ [(name, ())] } hps h
          split
          · refine ⟨h2.1, fun p hp => ?_⟩
            rcases setK_mem hp with hp | rfl
            · exact h2.2 p hp
            · exact fun x hx => h2.1 x (List.mem_of_mem_drop hx)
          · exact h2
theorem polsM_app (l : List Pol) (x : Pol) : entsM (polsM (l ++ [x])) = entsM (polsM l) ++ [(.string x.name, .agg [.d (.sc (.string x.name)), .d (.list (x.parts.map Part.row))])] := by
  simp [polsM, entsM, encP]
theorem polsM_app' (l : List Pol) (x : Pol) : polsM (l ++ [x]) = polsM l ++ [(x.name, x.parts)] := by simp [polsM]
theorem room_le (m : AL (List Part)) (w : AL Unit) : room m w ≤ m.length := by
  simp only [room]; exact Nat.le_trans (List.length_filter_le _ _) (by simp)
theorem under9 {E1 E2 E3 : MapE} (h1 : pureE E1) (h2 : pureE E2) (h3 : pureE E3) {n1 n2 : Nat} {r1 r2 r3 : List (List D)} {a1 a2 a3 a4 b1 b2 b3 : D} :
    ([Ob.map E1, .map E2, .map E3, .var [.map 0, .map 1, .map 2, .arr 4 0 n1], .arr 0 false 4 r1, .arr 0 false 4 r2, .var [.d a1, .d a2, .d a3, .d a4], .var [.d b1, .d b2, .d b3, .arr 8 0 n2], .arr 0 false 3 r3].all fun o => o.under (alive [Ob.map E1, .map E2, .map E3, .var [.map 0, .map 1, .map 2, .arr 4 0 n1], .arr 0 false 4 r1, .arr 0 false 4 r2, .var [.d a1, .d a2, .d a3, .d a4], .var [.d b1, .d b2, .d b3, .arr 8 0 n2], .arr 0 false 3 r3])) = true := by
  simp only [List.all_cons, List.all_nil, Ob.under, h1 _, h2 _, h3 _, Bool.true_and, Bool.and_true]
  rfl
theorem under10 {E1 E2 E3 : MapE} (h1 : pureE E1) (h2 : pureE E2) (h3 : pureE E3) {n1 : Nat} {r1 r2 : List (List D)} :
    ([Ob.map E1, .map E2, .map E3, .var [.map 0, .map 1, .map 2, .arr 4 0 n1], .arr 0 false 4 r1, .arr 0 false 4 r2].all fun o => o.under (alive [Ob.map E1, .map E2, .map E3, .var [.map 0, .map 1, .map 2, .arr 4 0 n1], .arr 0 false 4 r1, .arr 0 false 4 r2])) = true := by
  simp only [List.all_cons, List.all_nil, Ob.under, h1 _, h2 _, h3 _, Bool.true_and, Bool.and_true]
  rfl
theorem flatR (l : List Pol) (names : List ByteArray) (hl : l.length ≤ 100) (hn : names.length ≤ 100) (hm : ∀ p ∈ l, p.parts.length * 56 ≤ 2 ^ 47) (hr : ∀ p ∈ l, ∀ x ∈ p.parts, x.ok) :
    Comp Tryd.prog 18 [lst Pol.row l, lst strow names] (.tup [.one (.d (.list ((flatF l names).1.map Part.row))), .one (.d (.sc (.int .i64 (flatF l names).2)))]) := by
  refine Spec.body (C := cx [(14, false)] 96) fits (fn := Tryd.f18) Tryd.func18 rfl (by decide) (by decide) (gI ?_)
  refine STD wz ?_ <;> (repeat' (first | exact Wl.mk | refine wy1 ?_ ?_)) <;> repeat (intro hb; have hx := wy5 hb; clear hx)
  refine gA 3 3 false 4 ?_
  refine wLoop [1, 6, 25, 26, 27] 5 (l.length + 1) ?_
  refine (fun key => key l [] _ rfl rfl rfl :
    (∀ (rest done : List Pol) (j : Int), l = done ++ rest → j = done.length → dup [] l = dup (polsM done) rest →
    WR2 _ _ _ _ _ (rest.length + 1) [(1, lst strow names), (6, .one (.ptr 3 0)), (25, lst Pol.row l), (26, int .i64 (l.map Pol.row).length), (27, int .i64 j)]
      [.map (entsM (polsM done)), .map (ents encW []), .map (ents encK []), .var [.map 0, .map 1, .map 2, .arr 4 0 (([] : List Part).map Part.row).length], .arr 0 false 4 (([] : List Part).map Part.row)]) → _) ?_
  intro rest
  induction rest with
  | nil =>
    intro done j hl1 hj hd
    have hlen : l.length = done.length := by subst hl1; simp
    refine wR (gI ?_)
    refine STD wz ?_ <;> (repeat' (first | exact Wl.mk | refine wy1 ?_ ?_)) <;> repeat (intro hb; have hx := wy5 hb; clear hx)
    have hll : l = done := by simpa using hl1
    subst hll
    have hdf : dup [] l = false := by rw [hd]; rfl
    refine wLoop [6, 50, 51, 52] 5 (names.length + 1) ?_
    refine (fun key => key names [] _ startF rfl rfl rfl ⟨by decide, by intro p hp; cases hp⟩ rfl ⟨(by intro p hp; cases hp), (by intro p hp; cases hp)⟩ :
      (∀ (rest done : List ByteArray) (j : Int) (s : Fl), names = done ++ rest → j = done.length → namesF (polF (polsM l) (l.length + 1)) startF names = namesF (polF (polsM l) (l.length + 1)) s rest → s.ok → s.within = [] → s.alls Part.ok →
      WR2 _ _ _ _ _ (rest.length + 1) [(6, .one (.ptr 3 0)), (50, lst strow names), (51, int .i64 (names.map strow).length), (52, int .i64 j)]
        [.map (entsM (polsM l)), .map (ents encW s.within), .map (ents encK s.known), .var [.map 0, .map 1, .map 2, .arr 4 0 (s.out.map Part.row).length], .arr 0 false 4 (s.out.map Part.row)]) → _) ?_
    intro rest
    induction rest with
    | nil =>
      intro done j s hl1 hj hq hs hw hall
      have hlen : names.length = done.length := by subst hl1; simp
      refine wR (gI ?_)
      refine STD wz ?_ <;> (repeat' (first | exact Wl.mk | refine wy1 ?_ ?_)) <;> repeat (intro hb; have hx := wy5 hb; clear hx)
      have hso := hs.1
      refine wLoop [14, 66, 67, 68] 6 (s.out.length + 1) ?_
      refine (fun key => key s.out [] _ rfl rfl :
        (∀ (rest done : List Part) (j : Int), s.out = done ++ rest → j = done.length →
        WR2 _ _ _ _ _ (rest.length + 1) [(14, .one (.arr 5 0 ((done.map Part.strip).map Part.row).length)), (66, .one (.arr 4 0 (s.out.map Part.row).length)), (67, int .i64 (s.out.map Part.row).length), (68, int .i64 j)]
          [.map (entsM (polsM l)), .map (ents encW s.within), .map (ents encK s.known), .var [.map 0, .map 1, .map 2, .arr 4 0 (s.out.map Part.row).length], .arr 0 false 4 (s.out.map Part.row), .arr 0 false 4 ((done.map Part.strip).map Part.row)]) → _) ?_
      intro rest
      induction rest with
      | nil =>
        intro done j hl1 hj
        have hlen : s.out.length = done.length := by rw [hl1]; simp
        refine wR (gI ?_)
        refine STD wz ?_ <;> (repeat' (first | exact Wl.mk | refine wy1 ?_ ?_)) <;> repeat (intro hb; have hx := wy5 hb; clear hx)
        have hdd : done = s.out := by rw [hl1]; simp
        subst hdd
        exact ⟨by simp only [flatF, hdf, hq]; rfl, rfl⟩
      | cons x rest ih =>
        intro done j hl1 hj
        have hlen : s.out.length = done.length + (rest.length + 1) := by rw [hl1]; simp
        have hxo : x.ok := hall.1 x (by rw [hl1]; simp)
        obtain ⟨xu, ⟨xk, xd⟩, xr⟩ := x
        refine wR (gI ?_)
        refine STD wz ?_ <;> (repeat' (first | exact Wl.mk | refine wy1 ?_ ?_)) <;> repeat (intro hb; have hx := wy5 hb; clear hx)
        refine gA 7 3 false 3 ?_
        refine wLoop [14, 16, 17, 66, 67, 68, 76, 77, 78] 9 (xr.length + 1) ?_
        refine (fun key => key xr [] _ rfl rfl :
          (∀ (rest2 done2 : List Rule) (j2 : Int), xr = done2 ++ rest2 → j2 = done2.length →
          WR2 _ _ _ _ _ (rest2.length + 1) [(14, .one (.arr 5 0 ((done.map Part.strip).map Part.row).length)), (16, .one (.ptr 6 0)), (17, .one (.ptr 7 0)), (66, .one (.arr 4 0 (s.out.map Part.row).length)), (67, int .i64 (s.out.map Part.row).length), (68, int .i64 j), (76, lst Rule.row xr), (77, int .i64 (xr.map Rule.row).length), (78, int .i64 j2)]
            [.map (entsM (polsM l)), .map (ents encW s.within), .map (ents encK s.known), .var [.map 0, .map 1, .map 2, .arr 4 0 (s.out.map Part.row).length], .arr 0 false 4 (s.out.map Part.row), .arr 0 false 4 ((done.map Part.strip).map Part.row),
             .var [.d (.sc (.string xu)), .d (.sc (.int .i64 xk)), .d (.sc (.int .i64 xd)), .d (.list (xr.map Rule.row))], .var [.d (.sc (.string ⟨#[]⟩)), .d (.sc (.int .i64 xk)), .d (.sc (.int .i64 xd)), .arr 8 0 (done2.map Rule.row).length], .arr 0 false 3 (done2.map Rule.row)]) → _) ?_
        intro rest2
        induction rest2 with
        | nil =>
          intro done2 j2 hl2 hj2
          have hlen2 : xr.length = done2.length := by rw [hl2]; simp
          have hdd : done2 = xr := by rw [hl2]; simp
          subst hdd
          refine wR (gI ?_)
          refine STD wz ?_ <;> (repeat' (first | exact Wl.mk | refine wy1 ?_ ?_)) <;> repeat (intro hb; have hx := wy5 hb; clear hx)
          have g := ih (done ++ [⟨xu, ⟨xk, xd⟩, done2⟩]) (IntKind.wrap .i64 (j + 1)) (by rw [hl1]; simp) (by rw [wrap_ok (by omega) (by omega)]; simp [hj])
          rw [List.map_append, List.map_append] at g
          exact rE g (ht := trimI rfl (under10 (pure_m _) (pure_w _) (pure_k _)))
        | cons y rest2 ih2 =>
          intro done2 j2 hl2 hj2
          have hlen2 : xr.length = done2.length + (rest2.length + 1) := by rw [hl2]; simp
          have hyo : y.ok := hxo.2 y (by rw [hl2]; simp)
          have hc := copyR y hyo
          have hxl := hxo.1
          simp only at hxl
          obtain ⟨yc, yp, yq⟩ := y
          refine wR (gI ?_)
          refine STD (wc hc wz) ?_ <;> (repeat' (first | exact Wl.mk | refine wy1 ?_ ?_)) <;> repeat (intro hb; have hx := wy5 hb; clear hx)
          have g := ih2 (done2 ++ [⟨yc, yp, yq⟩]) (IntKind.wrap .i64 (j2 + 1)) (by rw [hl2]; simp) (by rw [wrap_ok (by omega) (by omega)]; simp [hj2])
          rw [List.map_append] at g
          exact rE g (ht := trimI rfl (under9 (pure_m _) (pure_w _) (pure_k _)))
    | cons x rest ih =>
      intro done j s hl1 hj hq hs hw hall
      have hlen : names.length = done.length + (rest.length + 1) := by subst hl1; simp
      have hmm : ∀ p ∈ polsM l, p.2.length * 56 ≤ 2 ^ 47 := by
        intro p hp
        obtain ⟨q, hq, rfl⟩ := List.mem_map.1 hp
        exact hm q hq
      have hc := policyR (polsM l) hmm (l.length + 1) s x hs (by have := room_le (polsM l) s.within; simp [polsM] at this ⊢; omega)
      have hg := polF_good (polsM l) (l.length + 1) s x hs
      have hga := polF_alls (P := Part.ok) (polsM l) (by intro p hp; obtain ⟨q, hq, rfl⟩ := List.mem_map.1 hp; exact hr q hq) (l.length + 1) s x hall
      have hq' : namesF (polF (polsM l) (l.length + 1)) s (x :: rest) = (if (polF (polsM l) (l.length + 1) s x).1 = 0 then namesF (polF (polsM l) (l.length + 1)) (polF (polsM l) (l.length + 1) s x).2 rest else polF (polsM l) (l.length + 1) s x) := rfl
      rw [hq'] at hq
      generalize (polF (polsM l) (l.length + 1) s x) = q at hc hg hga hq hq'
      refine wR (gI ?_)
      repeat' (first | refine fR ?_ (h6 := under6 (pure_m _) (pure_w _) (pure_k _)) | ((first | refine C_r ?_ | refine C0_r ?_ | refine O_r ?_ | refine R_r ?_); (conv => whnf); first | (refine ⟨fun hb => ?_, fun hb => ?_⟩ <;> try exact no_way) | refine A_o ?_ | refine B_o ?_ | refine C_o ?_ | refine R_o ?_ | refine fR ?_ | refine fRk ?_ | refine F_o ?_) | refine fun k => WL.crp [0, 1, 2, 3, 4] (stF (polsM l) s) _ _ hc (oW ?_ _) (under6 (pure_m _) (pure_w _) (pure_k _)) (under7 (pure_m _) (pure_w _) (pure_k _)) | refine SA_l ?_ | refine V_l ?_ | refine L_l ?_ | refine Q_l ?_ | refine X_l ?_ | refine Xa_l ?_ | refine Xs_l ?_ | refine K_l ?_ | refine Ka_l ?_ | refine Lk_l ?_ | refine Up_l ?_ | refine Del_l ?_ | refine St_l ?_ | refine LU_l ?_ | refine Xw_l ?_ | refine Le_l ?_ | refine Se_l ?_ | refine M_l ?_ | refine A_l ?_ | refine A0_l ?_ | refine A1_l ?_ | refine Mk_l ?_ | refine Kz_l ?_ | refine W_l ?_ | refine SA_d ?_ | refine V_d ?_ | refine L_d ?_ | refine Q_d ?_ | refine X_d ?_ | refine Xs_d ?_ | refine K_d ?_ | refine Ka_d ?_ | refine Lk_d ?_ | refine Up_d ?_ | refine A_d ?_ | refine A0_d ?_ | refine St_d ?_ | refine LU_d ?_ | refine Xw_d ?_ | refine Le_d ?_ | refine Se_d ?_ | refine M_d ?_ | refine Mk_d ?_ | refine N_d ?_ | refine Kz_d ?_ | refine W_d ?_ | fail)
      · have hz : q.1 ≠ 0 := by simpa using hb
        rw [if_neg hz] at hq
        exact ⟨by simp only [flatF, hdf, hq, if_neg hz]; rfl, rfl⟩
      · have hz : q.1 = 0 := by simpa using hb
        rw [if_pos hz] at hq
        have hg := hg hz
        refine rE (ih (done ++ [x]) _ q.2 (by rw [hl1]; simp) ?_ hq hg.1 (by rw [hg.2.1, hw]) hga) (ht := trimI rfl (under6 (pure_m _) (pure_w _) (pure_k _)))
        rw [wrap_ok (by omega) (by omega)]; simp [hj]
  | cons x rest ih =>
    intro done j hl1 hj hd
    have hlen : l.length = done.length + (rest.length + 1) := by subst hl1; simp
    obtain ⟨nm, ps⟩ := x
    rcases h1 : fk nm (polsM done) 0 with _ | ⟨i1, ps'⟩
    · have k1 : findKey (.string nm) (entsM (polsM done)) 0 = some none := by rw [findKey_m, h1]; rfl
      refine wR (gI ?_)
      repeat' (first | refine fR ?_ (h6 := under6 (pure_m _) (pure_w _) (pure_k _)) | ((first | refine C_r ?_ | refine C0_r ?_ | refine O_r ?_ | refine R_r ?_); (conv => whnf); first | (refine ⟨fun hb => ?_, fun hb => ?_⟩ <;> try exact no_way) | refine A_o ?_ | refine B_o ?_ | refine C_o ?_ | refine R_o ?_ | refine fR ?_ | refine fRk ?_ | refine F_o ?_) | refine SA_l ?_ | refine V_l ?_ | refine L_l ?_ | refine Q_l ?_ | refine X_l ?_ | refine Xa_l ?_ | refine Xs_l ?_ | refine K_l ?_ | refine Ka_l ?_ | refine Lk_l ?_ | refine Up_l ?_ | refine Del_l ?_ | refine St_l ?_ | refine LU_l ?_ | refine Xw_l ?_ | refine Le_l ?_ | refine Se_l ?_ | refine M_l ?_ | refine A_l ?_ | refine A0_l ?_ | refine A1_l ?_ | refine Mk_l ?_ | refine Kz_l ?_ | refine W_l ?_ | refine SA_d ?_ | refine V_d ?_ | refine L_d ?_ | refine Q_d ?_ | refine X_d ?_ | refine Xs_d ?_ | refine K_d ?_ | refine Ka_d ?_ | refine Lk_d ?_ | refine Up_d ?_ | refine A_d ?_ | refine A0_d ?_ | refine St_d ?_ | refine LU_d ?_ | refine Xw_d ?_ | refine Le_d ?_ | refine Se_d ?_ | refine M_d ?_ | refine Mk_d ?_ | refine N_d ?_ | refine Kz_d ?_ | refine W_d ?_ | fail)
      have g := ih (done ++ [⟨nm, ps⟩]) (IntKind.wrap .i64 (j + 1)) (by rw [hl1]; simp) (by rw [wrap_ok (by omega) (by omega)]; simp [hj]) (by rw [hd, polsM_app']; simp only [dup, h1]; rfl)
      rw [polsM_app] at g
      exact rE g (ht := trimI rfl (under6 (by intro L; simp only [mapSet, List.all_append, pure_m _ L, List.all_cons, List.all_nil]; rfl) (pure_w _) (pure_k _)))
    · have k1 : findKey (.string nm) (entsM (polsM done)) 0 = some (some (i1, encP ps' nm)) := by rw [findKey_m, h1]; rfl
      refine wR (gI ?_)
      repeat' (first | refine fR ?_ (h6 := under6 (pure_m _) (pure_w _) (pure_k _)) | ((first | refine C_r ?_ | refine C0_r ?_ | refine O_r ?_ | refine R_r ?_); (conv => whnf); first | (refine ⟨fun hb => ?_, fun hb => ?_⟩ <;> try exact no_way) | refine A_o ?_ | refine B_o ?_ | refine C_o ?_ | refine R_o ?_ | refine fR ?_ | refine fRk ?_ | refine F_o ?_) | refine SA_l ?_ | refine V_l ?_ | refine L_l ?_ | refine Q_l ?_ | refine X_l ?_ | refine Xa_l ?_ | refine Xs_l ?_ | refine K_l ?_ | refine Ka_l ?_ | refine Lk_l ?_ | refine Up_l ?_ | refine Del_l ?_ | refine St_l ?_ | refine LU_l ?_ | refine Xw_l ?_ | refine Le_l ?_ | refine Se_l ?_ | refine M_l ?_ | refine A_l ?_ | refine A0_l ?_ | refine A1_l ?_ | refine Mk_l ?_ | refine Kz_l ?_ | refine W_l ?_ | refine SA_d ?_ | refine V_d ?_ | refine L_d ?_ | refine Q_d ?_ | refine X_d ?_ | refine Xs_d ?_ | refine K_d ?_ | refine Ka_d ?_ | refine Lk_d ?_ | refine Up_d ?_ | refine A_d ?_ | refine A0_d ?_ | refine St_d ?_ | refine LU_d ?_ | refine Xw_d ?_ | refine Le_d ?_ | refine Se_d ?_ | refine M_d ?_ | refine Mk_d ?_ | refine N_d ?_ | refine Kz_d ?_ | refine W_d ?_ | fail)
      have hdt : dup [] l = true := by rw [hd]; simp only [dup, h1]; rfl
      exact ⟨by simp only [flatF, hdt]; rfl, rfl⟩
end Go.Proofs.YtjjhckmnnaafkaaDoor
namespace Go.Proofs.YtjjhckmnnaafkaaDoor
open Go Go.Am Go.Proofs
attribute [local irreducible] W WL DL WO RoundEnd
set_option maxRecDepth 10000
set_option maxHeartbeats 4000000
end Go.Proofs.YtjjhckmnnaafkaaDoor
namespace Go.Proofs.YtjjhckmnnaafkaaDoor
open Go Go.Am Go.Proofs
attribute [local irreducible] W WL DL WO RoundEnd
set_option maxRecDepth 10000
set_option maxHeartbeats 4000000
mutual
def sizeF : Ex → Nat → Int
  | .mk _ o n _ l, d => if d > 100 ∨ n.size > 60 ∨ o.size > 20 then 1000 else sizesF l (d + 1) 1
def sizesF : List Ex → Nat → Int → Int
  | [], _, n => n
  | x :: l, d, n => if n < 1000 then sizesF l d (n + sizeF x d) else n
end
mutual
theorem sizeF_le : ∀ (e : Ex) (d : Nat), d ≤ 101 → 1 ≤ sizeF e d ∧ sizeF e d ≤ 1000 * (102 - (d : Int))
  | .mk k o n u l, d, h => by
    rw [sizeF]
    split
    · omega
    · rename_i hn
      have hd : d ≤ 100 := by omega
      have := sizesF_le l (d + 1) 1 (by omega) (by omega) (by omega)
      omega
theorem sizesF_le : ∀ (l : List Ex) (d : Nat) (n : Int), d ≤ 101 → 1 ≤ n → n ≤ 999 + 1000 * (102 - (d : Int)) → 1 ≤ sizesF l d n ∧ sizesF l d n ≤ 999 + 1000 * (102 - (d : Int))
  | [], d, n, h, h1, h2 => by rw [sizesF]; exact ⟨h1, h2⟩
  | x :: l, d, n, h, h1, h2 => by
    rw [sizesF]
    have hx := sizeF_le x d h
    split
    · exact sizesF_le l d _ h (by omega) (by omega)
    · exact ⟨h1, h2⟩
end
/-- is an expression small enough? -/
def few (e : Ex) : Bool := decide (sizeF e 0 ≤ 300)
end Go.Proofs.YtjjhckmnnaafkaaDoor
namespace Go.Proofs.YtjjhckmnnaafkaaDoor
open Go Go.Am Go.Proofs
attribute [local irreducible] W WL DL WO RoundEnd
set_option maxRecDepth 10000
set_option maxHeartbeats 4000000
def fewRule (r : Rule) : Bool := decide (r.call.size ≤ 60) && (decide (r.params.length ≤ 10) && (decide (r.cond.length ≤ 3) && (r.params.all (fun s => decide (s.size ≤ 60)) && r.cond.all few)))
def fewPart (p : Part) : Bool := decide (p.use.size ≤ 60) && (decide (p.rules.length ≤ 12) && p.rules.all fewRule)
def fewPol (p : Pol) : Bool := decide (p.parts.length ≤ 12) && (decide (p.name.size ≤ 60) && p.parts.all fewPart)
def fewDef (d : Def) : Bool := few d.expr && decide (d.name.size ≤ 60)
def ruleN (l : List Part) : Nat := (l.map fun p => p.rules.length).sum
def ruleNs (l : List Pol) : Nat := (l.map fun p => ruleN p.parts).sum
def fewUnit (u : Un) : Bool := decide (u.defs.length ≤ 12) && (decide (u.pols.length ≤ 8) && (decide (u.main.length ≤ 8) && (u.defs.all fewDef && (u.main.all (fun s => decide (s.size ≤ 60)) && (u.pols.all fewPol && decide (ruleNs u.pols ≤ 60))))))
end Go.Proofs.YtjjhckmnnaafkaaDoor
namespace Go.Proofs.YtjjhckmnnaafkaaDoor
open Go Go.Am Go.Proofs
attribute [local irreducible] W WL DL WO RoundEnd
set_option maxRecDepth 10000
set_option maxHeartbeats 4000000
end Go.Proofs.YtjjhckmnnaafkaaDoor
namespace Go.Proofs.YtjjhckmnnaafkaaDoor
open Go Go.Am Go.Proofs
/-- what stands under a key -/
def look {α : Type} : List (ByteArray × α) → ByteArray → Option α
  | [], _ => none
  | (k', v) :: r, k => if k = k' then some v else look r k
/-- a list of parts with what is known in place of uses -/
def expand (K : AL (List Part)) (ps : List Part) : List Part := ps.flatMap fun x => if x.use = ⟨#[]⟩ then [x] else (look K x.use).getD []
def allIn (K : AL (List Part)) (ps : List Part) : Prop := ∀ x ∈ ps, x.use ≠ ⟨#[]⟩ → ∃ v, look K x.use = some v
inductive Good (m : AL (List Part)) : AL (List Part) → Prop
  | nil : Good m []
  | snoc {K : AL (List Part)} {name : ByteArray} {ps : List Part} : Good m K → look m name = some ps → allIn K ps → look K name = none → Good m (K ++ [(name, expand K ps)])
end Go.Proofs.YtjjhckmnnaafkaaDoor
namespace Go.Proofs.YtjjhckmnnaafkaaDoor
open Go Go.Am Go.Proofs
theorem Ex.eqb_refl : (∀ e : Ex, e.eqb e = true) := by
  intro e
  exact Ex.rec (motive_1 := fun e => e.eqb e = true) (motive_2 := fun l => Ex.eqbs l l = true) (fun k o n u l ih => by simp [Ex.eqb, ba_beq, ih]) rfl (fun x l h1 h2 => by simp [Ex.eqbs, h1, h2]) e
theorem pw_refl {α : Type} {f : α → α → Bool} (h : ∀ x, f x x = true) : ∀ l : List α, pw f l l = true
  | [] => rfl
  | x :: l => by simp [pw, h, pw_refl h l]
theorem Ex.eqbs_refl : ∀ l : List Ex, Ex.eqbs l l = true
  | [] => rfl
  | x :: l => by simp [Ex.eqbs, Ex.eqb_refl, Ex.eqbs_refl l]
theorem Rule.eqb_refl (r : Rule) : r.eqb r = true := by simp [Rule.eqb, ba_beq, pw_refl, Ex.eqbs_refl]
theorem Part.eqb_refl (r : Part) : r.eqb r = true := by simp [Part.eqb, Act.eqb, ba_beq, pw_refl Rule.eqb_refl]
end Go.Proofs.YtjjhckmnnaafkaaDoor
namespace Go.Proofs.YtjjhckmnnaafkaaDoor
open Go Go.Am Go.Proofs
end Go.Proofs.YtjjhckmnnaafkaaDoor
namespace Go.Proofs.YtjjhckmnnaafkaaDoor
open Go Go.Am Go.Proofs
/-! what data of the program's kinds looks like -/
theorem list_typed {α : Type} {f : α → List D} {p : α → Prop} {t : TypeId} : ∀ {rows : List (List D)}, (∀ row ∈ rows, Typed Tryd.prog t row → ∃ x, row = f x ∧ p x) → (∀ row ∈ rows, Typed Tryd.prog t row) → ∃ l : List α, rows = l.map f ∧ ∀ x ∈ l, p x
  | [], _, _ => ⟨[], rfl, fun x hx => by simp at hx⟩
  | r :: rows, h, hr => by
    obtain ⟨x, rfl, hx⟩ := h r (by simp) (hr r (by simp))
    obtain ⟨l, rfl, hl⟩ := list_typed (rows := rows) (fun row hrow => h row (by simp [hrow])) fun row hrow => hr row (List.mem_cons_of_mem _ hrow)
    exact ⟨x :: l, rfl, fun y hy => by
      rcases List.mem_cons.1 hy with rfl | hy
      · exact hx
      · exact hl y hy⟩
theorem str_typed {xs : List D} (h : Typed Tryd.prog 9 xs) : ∃ s : ByteArray, xs = strow s ∧ s.size < 2 ^ 47 := by
  obtain ⟨s, rfl, hs⟩ := h.str_inv Tryd.underlying9
  exact ⟨s, rfl, by have : reachBytes = 140737488351232 := rfl; omega⟩
theorem strs_typed {xs : List D} (h : Typed Tryd.prog 23 xs) : ∃ l : List ByteArray, xs = [.list (l.map strow)] ∧ l.length * 16 ≤ 2 ^ 47 := by
  obtain ⟨rows, rfl, hr, hs⟩ := h.slice_inv Tryd.underlying23
  obtain ⟨l, rfl, hl⟩ := list_typed (fun _ _ h => str_typed h) hr
  have hb : Tryd.prog.bytesOf 9 = 16 := by kernel_rfl
  rw [hb, List.length_map] at hs
  exact ⟨l, rfl, by have : reachBytes = 140737488351232 := rfl; omega⟩
def Pol.ok (p : Pol) : Prop := p.parts.length * 56 ≤ 2 ^ 47 ∧ ∀ x ∈ p.parts, x.ok
end Go.Proofs.YtjjhckmnnaafkaaDoor
namespace Go.Proofs.YtjjhckmnnaafkaaDoor
open Go Go.Am Go.Proofs
attribute [local irreducible] W WL DL WO RoundEnd
set_option maxRecDepth 10000
set_option maxHeartbeats 4000000
theorem namesF_out {P : Part → Prop} (m : AL (List Part)) (hm : ∀ p ∈ m, ∀ x ∈ p.2, P x) (n : Nat) : ∀ (names : List ByteArray) (s : Fl), s.ok → s.alls P → (namesF (polF m n) s names).1 = 0 → (namesF (polF m n) s names).2.ok ∧ (namesF (polF m n) s names).2.alls P
  | [], s, h1, h2, _ => ⟨h1, h2⟩
  | x :: r, s, h1, h2, h => by
    simp only [namesF] at h ⊢
    by_cases hz : (polF m n s x).1 = 0
    · rw [if_pos hz] at h ⊢
      exact namesF_out m hm n r _ (polF_good m n s x h1 hz).1 (polF_alls m hm n s x h2) h
    · rw [if_neg hz] at h; exact absurd h hz
theorem flatF_out (l : List Pol) (names : List ByteArray) (hr : ∀ p ∈ l, ∀ x ∈ p.parts, x.ok) : (flatF l names).1.length ≤ 500 ∧ ∀ x ∈ (flatF l names).1, x.ok := by
  unfold flatF
  split
  · exact ⟨by simp, by intro x hx; simp at hx⟩
  · simp only
    have h := namesF_out (P := Part.ok) (polsM l) (by intro p hp; obtain ⟨q, hq, rfl⟩ := List.mem_map.1 hp; exact hr q hq) (l.length + 1) names startF ⟨by decide, by intro p hp; cases hp⟩ ⟨(by intro p hp; cases hp), (by intro p hp; cases hp)⟩
    split
    · rename_i hz
      have h := h hz
      refine ⟨by simpa using h.1.1, fun x hx => ?_⟩
      obtain ⟨y, hy, rfl⟩ := List.mem_map.1 hx
      exact h.2.1 y hy
    · exact ⟨by simp, by intro x hx; simp at hx⟩
end Go.Proofs.YtjjhckmnnaafkaaDoor
namespace Go.Proofs.YtjjhckmnnaafkaaDoor
open Go Go.Am Go.Proofs
set_option maxRecDepth 10000
/-- a comparison of an argument -/
structure Atm where
  arg : Int
  op : Int
  mask : Int
  val : Int
  deriving DecidableEq
def atm0 : Atm := ⟨0, 0, 0, 0⟩
/-- a condition of arguments -/
inductive Cd where
  | mk (kind : Int) (atm : Atm) (kids : List Cd)
mutual
def Cd.row : Cd → List D
  | .mk k a l => [.sc (.int .i64 k), .sc (.int .i64 a.arg), .sc (.int .i64 a.op), .sc (.int .u64 a.mask), .sc (.int .u64 a.val), .list (Cd.rows l)]
def Cd.rows : List Cd → List (List D)
  | [] => []
  | x :: l => Cd.row x :: Cd.rows l
end
theorem Cd.rows_eq : ∀ l : List Cd, Cd.rows l = l.map Cd.row
  | [] => rfl
  | x :: l => by rw [Cd.rows, Cd.rows_eq l]; rfl
def cd0 : Cd := .mk 0 atm0 []
/-- a rule of a number -/
structure Bd where
  nr : Int
  act : Act
  cond : Cd
def Bd.row (x : Bd) : List D := .sc (.int .u32 x.nr) :: .sc (.int .i64 x.act.kind) :: .sc (.int .i64 x.act.data) :: x.cond.row
def bd0 : Bd := ⟨0, ⟨0, 0⟩, cd0⟩
/-- what a number stands for: its constants are known -/
def valOf (ds : List Def) (e : Ex) : Int × Int := cofF (learnF [] ds) e
def allBits : Int := 18446744073709551615
def kid0 : Ex → Ex
  | .mk _ _ _ _ (x :: _) => x
  | x => x
def kid1 : Ex → Ex
  | .mk _ _ _ _ (_ :: y :: _) => y
  | x => x
def maskF (ds : List Def) (k : Ex) : Int × Int := if k.kind = 6 then valOf ds (kid0 k) else (allBits, 0)
/-- a comparison -/
def atomF (ds : List Def) (ps : List ByteArray) (e : Ex) : Cd × Int :=
  if ixF (kid0 e).name ps 0 < 0 then (cd0, 7)
  else if (maskF ds (kid0 e)).2 = 0 then
    (if (valOf ds (kid1 e)).2 = 0 then (.mk 5 ⟨ixF (kid0 e).name ps 0, opF e.op, (maskF ds (kid0 e)).1, (valOf ds (kid1 e)).1⟩ [], 0) else (cd0, (valOf ds (kid1 e)).2))
  else (cd0, (maskF ds (kid0 e)).2)
def ckF (k : Int) : Int := if k = 1 then 4 else if k = 2 then 3 else 2
mutual
/-- a condition -/
def cndF (ds : List Def) (ps : List ByteArray) : Ex → Cd × Int
  | .mk k o n u l => if k = 4 then atomF ds ps (.mk k o n u l) else
    (if (cndsF ds ps l []).2 = 0 then (.mk (ckF k) atm0 (cndsF ds ps l []).1, 0) else (cd0, (cndsF ds ps l []).2))
def cndsF (ds : List Def) (ps : List ByteArray) : List Ex → List Cd → List Cd × Int
  | [], out => (out, 0)
  | x :: r, out => if (cndF ds ps x).2 = 0 then cndsF ds ps r (out ++ [(cndF ds ps x).1]) else ([], (cndF ds ps x).2)
end
/-- what a condition must be like for its parts to be there -/
def cmpOk (e : Ex) : Prop := ∃ o n u k v, e = .mk 4 o n u [k, v] ∧ (k.kind = 6 → ∃ o n u x, k = .mk 6 o n u [x])
mutual
def condOk : Ex → Prop
  | .mk k o n u l => (k = 4 → cmpOk (.mk k o n u l)) ∧ (k = 4 ∨ ((k = 1 ∨ k = 2 ∨ k = 3) ∧ condsOk l))
def condsOk : List Ex → Prop
  | [] => True
  | x :: l => condOk x ∧ condsOk l
end
theorem condsOk_mem : ∀ {l : List Ex} {x : Ex}, condsOk l → x ∈ l → condOk x
  | [], _, _, h => by simp at h
  | y :: l, x, h, hm => by
    rcases List.mem_cons.1 hm with rfl | hm
    · exact h.1
    · exact condsOk_mem h.2 hm
/-- is a text there twice? -/
def dupS : List ByteArray → List ByteArray → Bool
  | _, [] => false
  | d, x :: r => if d.any (x == ·) then true else dupS (d ++ [x]) r
/-- a rule's params -/
def paramsF (rp cp : List ByteArray) : List ByteArray × Int :=
  if rp.length > cp.length then ([], 9) else if dupS [] rp then ([], 8) else (rp ++ cp.drop rp.length, 0)
/-- a rule -/
def bruleF (ds : List Def) (c : Option (Int × List ByteArray)) (r : Rule) (a : Act) : Bd × Int :=
  match c with
  | none => (bd0, 7)
  | some (nr, cp) => if (paramsF r.params cp).2 = 0 then
      (match r.cond with
      | [] => (⟨nr, a, .mk 1 atm0 []⟩, 0)
      | x :: _ => if (cndF ds (paramsF r.params cp).1 x).2 = 0 then (⟨nr, a, (cndF ds (paramsF r.params cp).1 x).1⟩, 0) else (bd0, (cndF ds (paramsF r.params cp).1 x).2))
    else (bd0, (paramsF r.params cp).2)
/-- all rules of a part, of all parts -/
def brulesF (g : Rule → Act → Bd × Int) (a : Act) : List Rule → List Bd → List Bd × Int
  | [], out => (out, 0)
  | r :: l, out => if (g r a).2 = 0 then brulesF g a l (out ++ [(g r a).1]) else ([], (g r a).2)
def bpartsF (g : Rule → Act → Bd × Int) : List Part → List Bd → List Bd × Int
  | [], out => (out, 0)
  | p :: l, out => if (brulesF g p.act p.rules out).2 = 0 then bpartsF g l (brulesF g p.act p.rules out).1 else ([], (brulesF g p.act p.rules out).2)
end Go.Proofs.YtjjhckmnnaafkaaDoor
namespace Go.Proofs.YtjjhckmnnaafkaaDoor
open Go Go.Am Go.Proofs
theorem cval_7 (m : KM) (n : Nat) (o nm : ByteArray) (u : Int) (l : List Ex) : cvalF m (n + 1) (.mk 7 o nm u l) = (u, 0) := by
  rcases l with _ | ⟨x, _ | ⟨y, _ | ⟨z, r⟩⟩⟩ <;> simp [cvalF]
theorem cof_num (m : KM) (o nm : ByteArray) (u : Int) (l : List Ex) (h : numF (Ex.size (.mk 7 o nm u l) + 1) (.mk 7 o nm u l) = true) : cofF m (.mk 7 o nm u l) = (u, 0) := by
  rw [cofF, if_pos h, cval_7]
end Go.Proofs.YtjjhckmnnaafkaaDoor
namespace Go.Proofs.YtjjhckmnnaafkaaDoor
open Go Go.Am Go.Proofs
attribute [local irreducible] W WL DL WO RoundEnd
set_option maxRecDepth 10000
set_option maxHeartbeats 4000000
def cvV (q : Int × Int) : V := .tup [.one (.d (.sc (.int .u64 q.1))), .one (.d (.sc (.int .i64 q.2)))]
def tabV (q : (List Int × Int) × Int) : V := .tup [.one (.d (.list (q.1.1.map u64row))), .one (.d (.sc (.int .i64 q.1.2))), .one (.d (.sc (.int .i64 q.2)))]
theorem underE2 {E : List (Value × Am.FV)} (h : ∀ L, (E.all fun x => x.2.under L) = true) (r2 : List (List D)) : ([Ob.map E, .arr 0 false 1 r2].all fun o => o.under (alive [Ob.map E, .arr 0 false 1 r2])) = true := by
  simp only [List.all_cons, List.all_nil, Ob.under, h _, Bool.and_true]
theorem tableR (l : List Def) (hl : l.length ≤ 1000) (hn : ∀ d ∈ l, d.expr.nok) : Comp Tryd.prog 17 [lst Def.row l] (tabV (tableF [] [] 0 l)) := by
  generalize hfb : tableF [] [] 0 l = fb
  refine Spec.body (C := cx [(6, false)] 52) fits (fn := Tryd.f17) Tryd.func17 rfl (by decide) (by decide) (gI ?_)
  refine STD wz ?_ <;> (repeat' (first | exact Wl.mk | refine wy1 ?_ ?_)) <;> repeat (intro hb; have hx := wy5 hb; clear hx)
  refine wLoop [5, 6, 13, 14, 15] 2 (l.length + 1) ?_
  refine (fun key => key l [] 0 [] [] rfl rfl hfb.symm (Nat.le_refl _) :
    (∀ (rest done : List Def) (j : Nat) (m : KM) (out : List Int), l = done ++ rest → j = done.length → fb = tableF m out j rest → out.length ≤ j →
    WR2 _ _ _ _ _ (rest.length + 1) [(5, .one (.map 0)), (6, .one (.arr 1 0 (out.map u64row).length)), (13, lst Def.row l), (14, int .i64 (l.map Def.row).length), (15, int .i64 j)]
      [.map (ents encN m), .arr 0 false 1 (out.map u64row)]) → _) ?_
  intro rest
  induction rest with
  | nil =>
    intro done j m out h1 hj hr ho
    have hlen : l.length = done.length := by rw [h1]; simp
    refine wR (gI ?_)
    repeat' (first | refine fR ?_ (h6 := underE2 (pureN m) _) | ((first | refine C_r ?_ | refine C0_r ?_ | refine O_r ?_ | refine R_r ?_); (conv => whnf); first | (refine ⟨fun hb => ?_, fun hb => ?_⟩ <;> try exact no_way) | refine A_o ?_ | refine B_o ?_ | refine C_o ?_ | refine R_o ?_ | refine fR ?_ | refine fRk ?_ | refine F_o ?_) | refine SA_l ?_ | refine V_l ?_ | refine L_l ?_ | refine Q_l ?_ | refine X_l ?_ | refine Xa_l ?_ | refine Xs_l ?_ | refine K_l ?_ | refine Ka_l ?_ | refine Lk_l ?_ | refine Up_l ?_ | refine Del_l ?_ | refine St_l ?_ | refine LU_l ?_ | refine Xw_l ?_ | refine Le_l ?_ | refine Se_l ?_ | refine M_l ?_ | refine A_l ?_ | refine A0_l ?_ | refine A1_l ?_ | refine Mk_l ?_ | refine Kz_l ?_ | refine W_l ?_ | refine SA_d ?_ | refine V_d ?_ | refine L_d ?_ | refine Q_d ?_ | refine X_d ?_ | refine Xs_d ?_ | refine K_d ?_ | refine Ka_d ?_ | refine Lk_d ?_ | refine Up_d ?_ | refine A_d ?_ | refine A0_d ?_ | refine St_d ?_ | refine LU_d ?_ | refine Xw_d ?_ | refine Le_d ?_ | refine Se_d ?_ | refine M_d ?_ | refine Mk_d ?_ | refine N_d ?_ | refine Kz_d ?_ | refine W_d ?_ | fail)
    exact ⟨by rw [hr]; rfl, rfl⟩
  | cons x rest ih =>
    intro done j m out h1 hj hr ho
    have hlen : l.length = done.length + (rest.length + 1) := by rw [h1]; simp
    have hjx : l[((j : Nat) : Int).toNat]? = some x := by rw [h1, hj]; simp
    have g1 := at_of (f := Def.row) hjx
    have hc := cofR0 m x.expr (hn x (by rw [h1]; simp))
    rw [tableF] at hr
    rcases hk : fk x.name m 0 with _ | ⟨i1, k1⟩
    · rw [hk] at hr
      have hk2 : findKey (.string x.name) (ents encN m) 0 = some none := by rw [findKey_ents, hk]; rfl
      generalize cofF m x.expr = q at hc hr
      obtain ⟨q1, q2⟩ := q
      obtain ⟨xn, ⟨xk, xo, xm, xu, xl⟩⟩ := x
      refine wR (gI ?_)
      repeat' (first | refine fR ?_ (h6 := underE2 (pureN m) _) | ((first | refine C_r ?_ | refine C0_r ?_ | refine O_r ?_ | refine R_r ?_); (conv => whnf); first | (refine ⟨fun hb => ?_, fun hb => ?_⟩ <;> try exact no_way) | refine A_o ?_ | refine B_o ?_ | refine C_o ?_ | refine R_o ?_ | refine fR ?_ | refine fRk ?_ | refine F_o ?_) | refine fun k => WL.crp [0] [Ob.map (ents encN m)] _ _ hc (oW ?_ _) (underN0 m) (underR0 m) | refine SA_l ?_ | refine V_l ?_ | refine L_l ?_ | refine Q_l ?_ | refine X_l ?_ | refine Xa_l ?_ | refine Xs_l ?_ | refine K_l ?_ | refine Ka_l ?_ | refine Lk_l ?_ | refine Up_l ?_ | refine Del_l ?_ | refine St_l ?_ | refine LU_l ?_ | refine Xw_l ?_ | refine Le_l ?_ | refine Se_l ?_ | refine M_l ?_ | refine A_l ?_ | refine A0_l ?_ | refine A1_l ?_ | refine Mk_l ?_ | refine Kz_l ?_ | refine W_l ?_ | refine SA_d ?_ | refine V_d ?_ | refine L_d ?_ | refine Q_d ?_ | refine X_d ?_ | refine Xs_d ?_ | refine K_d ?_ | refine Ka_d ?_ | refine Lk_d ?_ | refine Up_d ?_ | refine A_d ?_ | refine A0_d ?_ | refine St_d ?_ | refine LU_d ?_ | refine Xw_d ?_ | refine Le_d ?_ | refine Se_d ?_ | refine M_d ?_ | refine Mk_d ?_ | refine N_d ?_ | refine Kz_d ?_ | refine W_d ?_ | fail)
      · have hz : ¬ q2 = 0 := by simpa using hb
        have hr2 : fb = (([], (j : Int)), q2) := by rw [hr]; exact if_neg hz
        exact ⟨by rw [hr2]; rfl, rfl⟩
      · have hz : q2 = 0 := by simpa using hb
        have hr2 : fb = tableF (m ++ [(xn, (q1, q2))]) (out ++ [q1]) (j + 1) rest := by rw [hr]; exact if_pos hz
        have g := ih (done ++ [⟨xn, Ex.mk xk xo xm xu xl⟩]) (j + 1) (m ++ [(xn, (q1, q2))]) (out ++ [q1]) (by rw [h1]; simp) (by rw [hj]; simp) hr2 (by simp; omega)
        have e1 : ((j + 1 : Nat) : Int) = IntKind.wrap .i64 ((j : Int) + 1) := by rw [wrap_ok (by omega) (by omega)]; rfl
        rw [ents_append, List.map_append, e1] at g
        exact rE g (ht := trimI rfl (underE2 (by intro L; simp only [mapSet, List.all_append, pureN, List.all_cons, List.all_nil]; rfl) _))
    · rw [hk] at hr
      have hk2 : findKey (.string x.name) (ents encN m) 0 = some (some (i1, encN k1)) := by rw [findKey_ents, hk]; rfl
      generalize cofF m x.expr = q at hc hr
      obtain ⟨q1, q2⟩ := q
      obtain ⟨k11, k12⟩ := k1
      obtain ⟨xn, ⟨xk, xo, xm, xu, xl⟩⟩ := x
      refine wR (gI ?_)
      repeat' (first | refine fR ?_ (h6 := underE2 (pureN m) _) | ((first | refine C_r ?_ | refine C0_r ?_ | refine O_r ?_ | refine R_r ?_); (conv => whnf); first | (refine ⟨fun hb => ?_, fun hb => ?_⟩ <;> try exact no_way) | refine A_o ?_ | refine B_o ?_ | refine C_o ?_ | refine R_o ?_ | refine fR ?_ | refine fRk ?_ | refine F_o ?_) | refine fun k => WL.crp [0] [Ob.map (ents encN m)] _ _ hc (oW ?_ _) (underN0 m) (underR0 m) | refine SA_l ?_ | refine V_l ?_ | refine L_l ?_ | refine Q_l ?_ | refine X_l ?_ | refine Xa_l ?_ | refine Xs_l ?_ | refine K_l ?_ | refine Ka_l ?_ | refine Lk_l ?_ | refine Up_l ?_ | refine Del_l ?_ | refine St_l ?_ | refine LU_l ?_ | refine Xw_l ?_ | refine Le_l ?_ | refine Se_l ?_ | refine M_l ?_ | refine A_l ?_ | refine A0_l ?_ | refine A1_l ?_ | refine Mk_l ?_ | refine Kz_l ?_ | refine W_l ?_ | refine SA_d ?_ | refine V_d ?_ | refine L_d ?_ | refine Q_d ?_ | refine X_d ?_ | refine Xs_d ?_ | refine K_d ?_ | refine Ka_d ?_ | refine Lk_d ?_ | refine Up_d ?_ | refine A_d ?_ | refine A0_d ?_ | refine St_d ?_ | refine LU_d ?_ | refine Xw_d ?_ | refine Le_d ?_ | refine Se_d ?_ | refine M_d ?_ | refine Mk_d ?_ | refine N_d ?_ | refine Kz_d ?_ | refine W_d ?_ | fail)
      have hr2 : fb = (([], (j : Int)), 8) := hr
      exact ⟨by rw [hr2]; rfl, rfl⟩
end Go.Proofs.YtjjhckmnnaafkaaDoor
