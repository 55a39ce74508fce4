/- A part of a proof: functions of the program walked over the abstract machine, and what they compute. -/
import Derived.Test.YtjjhckmnnaafkaaGreatDoorPWAq
import Derived.Test.YtjjhckmnnaafkaaGreatDoorPWAn
import Derived.Test.YtjjhckmnnaafkaaGreatDoorPWAo
set_option linter.unusedVariables false
set_option linter.unusedSimpArgs false
namespace Go.Proofs.YtjjhckmnnaafkaaGreatDoor
open Go Go.Am Go.Proofs
attribute [local irreducible] W WL DL WO RoundEnd
set_option maxRecDepth 10000
set_option maxHeartbeats 4000000
def Fl.ok (s : Fl) : Prop := s.out.length ≤ 500 ∧ ∀ p ∈ s.known, p.2.length ≤ 500
def room (m : AL (List Part)) (w : AL Unit) : Nat := ((m.map (·.1)).filter fun k => (fk k w 0).isNone).length
theorem addF_good {s : Fl} {l : List Part} (h : s.ok) (h0 : (addF s l).1 = 0) : (addF s l).2.ok ∧ (addF s l).2.within = s.within ∧ s.out.length ≤ (addF s l).2.out.length := by
  refine ⟨⟨?_, h.2⟩, rfl, by simp [addF]⟩
  simp only [addF, addE] at h0 ⊢
  split at h0
  · simp at h0
  · omega
theorem partsF_good {g : Fl → ByteArray → Int × Fl} (hg : ∀ s name, s.ok → (g s name).1 = 0 → (g s name).2.ok ∧ (g s name).2.within = s.within ∧ s.out.length ≤ (g s name).2.out.length) :
    ∀ (l : List Part) (s : Fl), s.ok → (partsF g s l).1 = 0 → (partsF g s l).2.ok ∧ (partsF g s l).2.within = s.within ∧ s.out.length ≤ (partsF g s l).2.out.length
  | [], s, h, _ => ⟨h, rfl, Nat.le_refl _⟩
  | x :: r, s, h, h0 => by
    have h1 : (if x.use = ⟨#[]⟩ then addF s [x] else g s x.use).1 = 0 → (if x.use = ⟨#[]⟩ then addF s [x] else g s x.use).2.ok ∧ (if x.use = ⟨#[]⟩ then addF s [x] else g s x.use).2.within = s.within ∧ s.out.length ≤ (if x.use = ⟨#[]⟩ then addF s [x] else g s x.use).2.out.length := by
      by_cases he : x.use = ⟨#[]⟩
      · simp only [if_pos he]; exact addF_good h
      · simp only [if_neg he]; exact hg _ _ h
    simp only [partsF] at h0 ⊢
    generalize (if x.use = ⟨#[]⟩ then addF s [x] else g s x.use) = q at h0 h1 ⊢
    by_cases hz : q.1 = 0
    · rw [if_pos hz] at h0 ⊢
      obtain ⟨h2, h3, h3'⟩ := h1 hz
      have h4 := partsF_good hg r _ h2 h0
      exact ⟨h4.1, by rw [h4.2.1, h3], Nat.le_trans h3' h4.2.2⟩
    · rw [if_neg hz] at h0; exact absurd h0 hz
theorem delK_last {α : Type} {k : ByteArray} {v : α} {l : AL α} (h : fk k l 0 = none) : delK (l ++ [(k, v)]) k = l := by
  have h1 := fk_append (m := [(k, v)]) (i := 0) (fk_none.1 h)
  simp only [delK, h1, fk, if_true, Nat.zero_add]
  rw [List.eraseIdx_append_of_length_le (Nat.le_refl _)]; simp
theorem setK_mem {α : Type} {k : ByteArray} {v : α} {l : AL α} {p : ByteArray × α} (h : p ∈ setK l k v) : p ∈ l ∨ p = (k, v) := by
  simp only [setK] at h
  split at h
  · exact List.mem_or_eq_of_mem_set h
  · simpa using h
theorem polF_good (m : AL (List Part)) : ∀ (n : Nat) (s : Fl) (name : ByteArray), s.ok → (polF m n s name).1 = 0 → (polF m n s name).2.ok ∧ (polF m n s name).2.within = s.within ∧ s.out.length ≤ (polF m n s name).2.out.length
  | 0, s, _, h, _ => ⟨h, rfl, Nat.le_refl _⟩
  | n + 1, s, name, h, h0 => by
    simp only [polF] at h0 ⊢
    split at h0
    · simp at h0
    · split at h0
      · simp at h0
      · split at h0
        · exact addF_good h h0
        · rename_i hw _ hk
          split at h0
          · rename_i hq
            rw [if_pos hq]
            have h1 := partsF_good (polF_good m n) _ ({ s with within := s.within ++ [(name, ())] }) h hq
            refine ⟨⟨h1.1.1, fun p hp => ?_⟩, by simp only; rw [h1.2.1]; exact delK_last hw, h1.2.2⟩
            rcases setK_mem hp with hp | rfl
            · exact h1.1.2 p hp
            · have := h1.1.1; simp; omega
          · rename_i hq; exact absurd h0 hq
theorem room_lt {m : AL (List Part)} {w : AL Unit} {name : ByteArray} {x : Nat × List Part} (h1 : fk name m 0 = some x) (h2 : fk name w 0 = none) : room m (w ++ [(name, ())]) < room m w := by
  have hm : name ∈ m.map (·.1) := Classical.byContradiction fun hn => by rw [fk_none.2 hn] at h1; simp at h1
  have key : ∀ k, (fk k (w ++ [(name, ())]) 0).isNone = (!decide (k = name) && (fk k w 0).isNone) := by
    intro k
    rw [Bool.eq_iff_iff]
    simp only [Option.isNone_iff_eq_none, Bool.and_eq_true, fk_none]
    simp [and_comm]
  simp only [room, key, ← List.filter_filter]
  rw [List.length_filter_lt_length_iff_exists]
  refine ⟨name, List.mem_filter.2 ⟨hm, by rw [h2]; rfl⟩, by simp⟩
end Go.Proofs.YtjjhckmnnaafkaaGreatDoor
namespace Go.Proofs.YtjjhckmnnaafkaaGreatDoor
open Go Go.Am Go.Proofs
attribute [local irreducible] W WL DL WO RoundEnd
set_option maxRecDepth 10000
set_option maxHeartbeats 4000000
theorem fk_mem {α : Type} {k : ByteArray} {l : AL α} {j : Nat} {v : α} (h : fk k l 0 = some (j, v)) : (k, v) ∈ l := by
  obtain ⟨n, _, h2⟩ := fk_spec h
  exact List.mem_of_getElem? h2
theorem cutR (s0 out : List Part) : ((out.map Part.row).take ((none : Option Int).getD ((out.map Part.row).length : Int)).toNat).drop ((some ((s0.map Part.row).length : Int)).getD 0).toNat = (out.drop s0.length).map Part.row := by
  have h1 : ((some ((s0.map Part.row).length : Int)).getD 0).toNat = s0.length := by simp
  have h2 : ((none : Option Int).getD ((out.map Part.row).length : Int)).toNat = (out.map Part.row).length := by simp
  rw [h1, h2, List.take_length, List.map_drop]
theorem under8 {E1 E2 E3 : MapE} (h1 : pureE E1) (h2 : pureE E2) (h3 : pureE E3) {n ep ep' k : Nat} {m : Bool} {rows : List (List D)} {ds : List D} :
    ([Ob.map E1, .map E2, .map E3, .var [.map 0, .map 1, .map 2, .arr 4 ep n], .arr ep' m k rows, .var (ds.map .d)].all fun o => o.under (alive [Ob.map E1, .map E2, .map E3, .var [.map 0, .map 1, .map 2, .arr 4 ep n], .arr ep' m k rows, .var (ds.map .d)])) = true := by
  have hv : ∀ (L : Nat → Bool) (l : List D), underAll L (l.map .d) = true := by
    intro L l
    induction l with
    | nil => rfl
    | cons x r ih => simp only [List.map_cons, underAll, Cell.under, ih]; rfl
  simp only [List.all_cons, List.all_nil, Ob.under, h1 _, h2 _, h3 _, hv, Bool.true_and, Bool.and_true]
  rfl
theorem policyR (m : AL (List Part)) (hm : ∀ p ∈ m, p.2.length * 56 ≤ 2 ^ 47) : ∀ (n : Nat) (s : Fl) (name : ByteArray), s.ok → room m s.within < n →
    Am.Spec Tryz.prog 37 [.one (.ptr 3 0), str name] (stF m s) (fun x s' => x = int .i64 (polF m n s name).1 ∧ s' = stF m (polF m n s name).2) := by
  intro n
  induction n with
  | zero => intro s name _ h; omega
  | succ n IH =>
  intro s name hs hn
  rcases h1 : fk name m 0 with _ | ⟨i1, ps⟩
  · have k1 : findKey (.string name) (entsM m) 0 = some none := by rw [findKey_m, h1]; rfl
    have hpol : polF m (n + 1) s name = (7, s) := by simp only [polF, h1]
    rw [hpol]
    refine Spec.body (C := cx [] 86) fits (fn := Tryz.f37) Tryz.func37 rfl (by decide) (by decide) (gI ?_)
    repeat' (first | refine fR ?_ (h6 := under6 (pure_m _) (pure_w _) (pure_k _)) | ((first | refine C_r ?_ | refine C0_r ?_ | refine O_r ?_ | refine R_r ?_); (conv => whnf); first | (refine ⟨fun hb => ?_, fun hb => ?_⟩ <;> try exact no_way) | refine A_o ?_ | refine B_o ?_ | refine C_o ?_ | refine R_o ?_ | refine fR ?_ | refine fRk ?_ | refine F_o ?_) | refine SA_l ?_ | refine V_l ?_ | refine L_l ?_ | refine Q_l ?_ | refine X_l ?_ | refine Xa_l ?_ | refine Xs_l ?_ | refine K_l ?_ | refine Ka_l ?_ | refine Lk_l ?_ | refine Up_l ?_ | refine Del_l ?_ | refine St_l ?_ | refine LU_l ?_ | refine Xw_l ?_ | refine Le_l ?_ | refine Se_l ?_ | refine M_l ?_ | refine A_l ?_ | refine A0_l ?_ | refine A1_l ?_ | refine Mk_l ?_ | refine Kz_l ?_ | refine W_l ?_ | fail)
    exact ⟨rfl, rfl⟩
  have k1 : findKey (.string name) (entsM m) 0 = some (some (i1, encP ps name)) := by rw [findKey_m, h1]; rfl
  rcases h2 : fk name s.within 0 with _ | ⟨i2, w2⟩
  rotate_left
  · have k2 : findKey (.string name) (ents encW s.within) 0 = some (some (i2, encW w2)) := by rw [findKey_ents, h2]; rfl
    have hpol : polF m (n + 1) s name = (5, s) := by simp only [polF, h1, h2]
    rw [hpol]
    refine Spec.body (C := cx [] 86) fits (fn := Tryz.f37) Tryz.func37 rfl (by decide) (by decide) (gI ?_)
    repeat' (first | refine fR ?_ (h6 := under6 (pure_m _) (pure_w _) (pure_k _)) | ((first | refine C_r ?_ | refine C0_r ?_ | refine O_r ?_ | refine R_r ?_); (conv => whnf); first | (refine ⟨fun hb => ?_, fun hb => ?_⟩ <;> try exact no_way) | refine A_o ?_ | refine B_o ?_ | refine C_o ?_ | refine R_o ?_ | refine fR ?_ | refine fRk ?_ | refine F_o ?_) | refine SA_l ?_ | refine V_l ?_ | refine L_l ?_ | refine Q_l ?_ | refine X_l ?_ | refine Xa_l ?_ | refine Xs_l ?_ | refine K_l ?_ | refine Ka_l ?_ | refine Lk_l ?_ | refine Up_l ?_ | refine Del_l ?_ | refine St_l ?_ | refine LU_l ?_ | refine Xw_l ?_ | refine Le_l ?_ | refine Se_l ?_ | refine M_l ?_ | refine A_l ?_ | refine A0_l ?_ | refine A1_l ?_ | refine Mk_l ?_ | refine Kz_l ?_ | refine W_l ?_ | fail)
    exact ⟨rfl, rfl⟩
  have k2 : findKey (.string name) (ents encW s.within) 0 = some none := by rw [findKey_ents, h2]; rfl
  rcases h3 : fk name s.known 0 with _ | ⟨i3, l3⟩
  rotate_left
  · have k3 : findKey (.string name) (ents encK s.known) 0 = some (some (i3, encK l3)) := by rw [findKey_ents, h3]; rfl
    have hpol : polF m (n + 1) s name = addF s l3 := by simp only [polF, h1, h2, h3]
    rw [hpol]
    have ha := addR (entsM m) (ents encW s.within) (ents encK s.known) (pure_m _) (pure_w _) (pure_k _) s.out l3 (by have := hs.1; omega) (by have := hs.2 _ (fk_mem h3); simp at this; omega)
    refine Spec.body (C := cx [] 86) fits (fn := Tryz.f37) Tryz.func37 rfl (by decide) (by decide) (gI ?_)
    repeat' (first | refine fR ?_ (h6 := under6 (pure_m _) (pure_w _) (pure_k _)) | ((first | refine C_r ?_ | refine C0_r ?_ | refine O_r ?_ | refine R_r ?_); (conv => whnf); first | (refine ⟨fun hb => ?_, fun hb => ?_⟩ <;> try exact no_way) | refine A_o ?_ | refine B_o ?_ | refine C_o ?_ | refine R_o ?_ | refine fR ?_ | refine fRk ?_ | refine F_o ?_) | refine fun k => WL.crp [0, 1, 2, 3, 4] (stF m s) _ _ ha (oW ?_ _) (under6 (pure_m _) (pure_w _) (pure_k _)) (under7 (pure_m _) (pure_w _) (pure_k _)) | refine SA_l ?_ | refine V_l ?_ | refine L_l ?_ | refine Q_l ?_ | refine X_l ?_ | refine Xa_l ?_ | refine Xs_l ?_ | refine K_l ?_ | refine Ka_l ?_ | refine Lk_l ?_ | refine Up_l ?_ | refine Del_l ?_ | refine St_l ?_ | refine LU_l ?_ | refine Xw_l ?_ | refine Le_l ?_ | refine Se_l ?_ | refine M_l ?_ | refine A_l ?_ | refine A0_l ?_ | refine A1_l ?_ | refine Mk_l ?_ | refine Kz_l ?_ | refine W_l ?_ | fail)
    exact ⟨rfl, rfl⟩
  have k3 : findKey (.string name) (ents encK s.known) 0 = some none := by rw [findKey_ents, h3]; rfl
  refine Spec.body (C := cx [] 86) fits (fn := Tryz.f37) Tryz.func37 rfl (by decide) (by decide) (gI ?_)
  repeat' (first | refine fR ?_ (h6 := under6 (pure_m _) (pure_w _) (pure_k _)) | ((first | refine C_r ?_ | refine C0_r ?_ | refine O_r ?_ | refine R_r ?_); (conv => whnf); first | (refine ⟨fun hb => ?_, fun hb => ?_⟩ <;> try exact no_way) | refine A_o ?_ | refine B_o ?_ | refine C_o ?_ | refine R_o ?_ | refine fR ?_ | refine fRk ?_ | refine F_o ?_) | refine SA_l ?_ | refine V_l ?_ | refine L_l ?_ | refine Q_l ?_ | refine X_l ?_ | refine Xa_l ?_ | refine Xs_l ?_ | refine K_l ?_ | refine Ka_l ?_ | refine Lk_l ?_ | refine Up_l ?_ | refine Del_l ?_ | refine St_l ?_ | refine LU_l ?_ | refine Xw_l ?_ | refine Le_l ?_ | refine Se_l ?_ | refine M_l ?_ | refine A_l ?_ | refine A0_l ?_ | refine A1_l ?_ | refine Mk_l ?_ | refine Kz_l ?_ | refine W_l ?_ | fail)
  have hps := hm (name, ps) (fk_mem h1)
  simp only at hps
  have hroom : room m (s.within ++ [(name, ())]) < n := by have := room_lt h1 h2; omega
  have hpol : polF m (n + 1) s name = (if (partsF (polF m n) { s with within := s.within ++ [(name, ())] } ps).1 = 0 then (0, { within := delK (partsF (polF m n) { s with within := s.within ++ [(name, ())] } ps).2.within name, known := setK (partsF (polF m n) { s with within := s.within ++ [(name, ())] } ps).2.known name ((partsF (polF m n) { s with within := s.within ++ [(name, ())] } ps).2.out.drop s.out.length), out := (partsF (polF m n) { s with within := s.within ++ [(name, ())] } ps).2.out }) else (partsF (polF m n) { s with within := s.within ++ [(name, ())] } ps)) := by simp only [polF, h1, h2, h3]
  rw [hpol]
  generalize hs0 : ({ s with within := s.within ++ [(name, ())] } : Fl) = s0
  have g0 : s0.within = s.within ++ [(name, ())] := by subst hs0; rfl
  have g1 : s0.known = s.known := by subst hs0; rfl
  have g2 : s0.out = s.out := by subst hs0; rfl
  have g3 : s0.ok := by subst hs0; exact hs
  refine wLoop [0, 1, 4, 5, 9, 56, 57, 58] 6 (ps.length + 1) ?_
  refine (fun key => key ps [] _ s0 _ _ _ rfl rfl (by rw [g0, ents_append]; rfl) (by rw [g1]) (by rw [g2]) rfl g3 g0 (by rw [g2]; exact Nat.le_refl _) :
    (∀ (rest done : List Part) (j : Int) (t : Fl) (E2 E3 : MapE) (out : List Part), ps = done ++ rest → j = done.length → E2 = ents encW t.within → E3 = ents encK t.known → out = t.out → partsF (polF m n) s0 ps = partsF (polF m n) t rest → t.ok → t.within = s.within ++ [(name, ())] → s.out.length ≤ t.out.length →
    WR2 _ _ _ _ _ (rest.length + 1) [(0, .one (.ptr 3 0)), (1, str name), (4, int .i64 0), (5, .one (.ptr 5 0)), (9, int .i64 (s.out.map Part.row).length), (56, lst Part.row ps), (57, int .i64 (ps.map Part.row).length), (58, int .i64 j)]
      [.map (entsM m), .map E2, .map E3, .var [.map 0, .map 1, .map 2, .arr 4 0 (out.map Part.row).length], .arr 0 false 4 (out.map Part.row), .var [.d (.sc (.string name)), .d (.list (ps.map Part.row))]]) → _) ?_
  intro rest
  induction rest with
  | nil =>
    intro done j t E2 E3 out hl hj e2 e3 eo hp ht hw hlen
    subst e2; subst e3; subst eo
    have hp' : partsF (polF m n) t [] = (0, t) := rfl
    rw [hp'] at hp
    have hd : delK t.within name = s.within := by rw [hw]; exact delK_last h2
    rw [hp, if_pos rfl]
    have k4 : findKey (.string name) (ents encW t.within) 0 = some (some (s.within.length, encW ())) := by
      rw [findKey_ents, hw, fk_append (fk_none.1 h2)]; simp [fk]
    have hdl : ps.length = done.length := by subst hl; simp
    have htl := ht.1
    have hdr : (t.out.drop s.out.length).length ≤ 500 := by simp; omega
    rcases h5 : fk name t.known 0 with _ | ⟨i5, l5⟩
    · have k5 : findKey (.string name) (ents encK t.known) 0 = some none := by rw [findKey_ents, h5]; rfl
      refine wR (gI ?_)
      repeat' (first | refine fR ?_ (h6 := under6 (pure_m _) (pure_w _) (pure_k _)) | ((first | refine C_r ?_ | refine C0_r ?_ | refine O_r ?_ | refine R_r ?_); (conv => whnf); first | (refine ⟨fun hb => ?_, fun hb => ?_⟩ <;> try exact no_way) | refine A_o ?_ | refine B_o ?_ | refine C_o ?_ | refine R_o ?_ | refine fR ?_ | refine fRk ?_ | refine F_o ?_) | refine SA_l ?_ | refine V_l ?_ | refine L_l ?_ | refine Q_l ?_ | refine X_l ?_ | refine Xa_l ?_ | refine Xs_l ?_ | refine K_l ?_ | refine Ka_l ?_ | refine Lk_l ?_ | refine Up_l ?_ | refine Del_l ?_ | refine St_l ?_ | refine LU_l ?_ | refine Xw_l ?_ | refine Le_l ?_ | refine Se_l ?_ | refine M_l ?_ | refine A_l ?_ | refine A0_l ?_ | refine A1_l ?_ | refine Mk_l ?_ | refine Kz_l ?_ | refine W_l ?_ | refine fun k => dKa fits (oD ?_ _) (hr := cutR _ _) | refine SA_d ?_ | refine V_d ?_ | refine L_d ?_ | refine Q_d ?_ | refine X_d ?_ | refine Xs_d ?_ | refine K_d ?_ | refine Ka_d ?_ | refine Lk_d ?_ | refine Up_d ?_ | refine A_d ?_ | refine A0_d ?_ | refine St_d ?_ | refine LU_d ?_ | refine Xw_d ?_ | refine Le_d ?_ | refine Se_d ?_ | refine M_d ?_ | refine Mk_d ?_ | refine N_d ?_ | refine Kz_d ?_ | refine W_d ?_ | fail)
      have e1 : mapDel (ents encW t.within) (some (s.within.length, encW ())) = ents encW s.within := by
        show (ents encW t.within).eraseIdx s.within.length = _
        rw [ents_erase, hw, List.eraseIdx_append_of_length_le (Nat.le_refl _)]; simp
      have e2 : mapSet (ents encK t.known) (.string name) (.one (.d (.list ((t.out.drop s.out.length).map Part.row)))) none = ents encK (setK t.known name (t.out.drop s.out.length)) := by
        simp only [setK, h5, mapSet, ents_append]; rfl
      rw [e1, e2]
      refine fR ?_ (h6 := under6 (pure_m _) (pure_w _) (pure_k _))
      refine ⟨rfl, ?_⟩
      show _ = stF m ⟨delK t.within name, _, _⟩
      rw [hd]
    · have k5 : findKey (.string name) (ents encK t.known) 0 = some (some (i5, encK l5)) := by rw [findKey_ents, h5]; rfl
      refine wR (gI ?_)
      repeat' (first | refine fR ?_ (h6 := under6 (pure_m _) (pure_w _) (pure_k _)) | ((first | refine C_r ?_ | refine C0_r ?_ | refine O_r ?_ | refine R_r ?_); (conv => whnf); first | (refine ⟨fun hb => ?_, fun hb => ?_⟩ <;> try exact no_way) | refine A_o ?_ | refine B_o ?_ | refine C_o ?_ | refine R_o ?_ | refine fR ?_ | refine fRk ?_ | refine F_o ?_) | refine SA_l ?_ | refine V_l ?_ | refine L_l ?_ | refine Q_l ?_ | refine X_l ?_ | refine Xa_l ?_ | refine Xs_l ?_ | refine K_l ?_ | refine Ka_l ?_ | refine Lk_l ?_ | refine Up_l ?_ | refine Del_l ?_ | refine St_l ?_ | refine LU_l ?_ | refine Xw_l ?_ | refine Le_l ?_ | refine Se_l ?_ | refine M_l ?_ | refine A_l ?_ | refine A0_l ?_ | refine A1_l ?_ | refine Mk_l ?_ | refine Kz_l ?_ | refine W_l ?_ | refine fun k => dKa fits (oD ?_ _) (hr := cutR _ _) | refine SA_d ?_ | refine V_d ?_ | refine L_d ?_ | refine Q_d ?_ | refine X_d ?_ | refine Xs_d ?_ | refine K_d ?_ | refine Ka_d ?_ | refine Lk_d ?_ | refine Up_d ?_ | refine A_d ?_ | refine A0_d ?_ | refine St_d ?_ | refine LU_d ?_ | refine Xw_d ?_ | refine Le_d ?_ | refine Se_d ?_ | refine M_d ?_ | refine Mk_d ?_ | refine N_d ?_ | refine Kz_d ?_ | refine W_d ?_ | fail)
      have e1 : mapDel (ents encW t.within) (some (s.within.length, encW ())) = ents encW s.within := by
        show (ents encW t.within).eraseIdx s.within.length = _
        rw [ents_erase, hw, List.eraseIdx_append_of_length_le (Nat.le_refl _)]; simp
      have e2 : mapSet (ents encK t.known) (.string name) (.one (.d (.list ((t.out.drop s.out.length).map Part.row)))) (some (i5, encK l5)) = ents encK (setK t.known name (t.out.drop s.out.length)) := by
        simp only [setK, h5, mapSet, ents, List.map_set]; rfl
      rw [e1, e2]
      refine fR ?_ (h6 := under6 (pure_m _) (pure_w _) (pure_k _))
      refine ⟨rfl, ?_⟩
      show _ = stF m ⟨delK t.within name, _, _⟩
      rw [hd]
  | cons x rest ih =>
    intro done j t E2 E3 out hl hj e2 e3 eo hp ht hw hlen
    subst e2; subst e3; subst eo
    have hdl : ps.length = done.length + (rest.length + 1) := by subst hl; simp
    have hc := partR m n t x ht.1 (fun _ => IH t x.use ht (by rw [hw]; exact hroom))
    have hps' : partsF (polF m n) t (x :: rest) = (if (if x.use = ⟨#[]⟩ then addF t [x] else polF m n t x.use).1 = 0 then partsF (polF m n) (if x.use = ⟨#[]⟩ then addF t [x] else polF m n t x.use).2 rest else (if x.use = ⟨#[]⟩ then addF t [x] else polF m n t x.use)) := rfl
    have hgood : (if x.use = ⟨#[]⟩ then addF t [x] else polF m n t x.use).1 = 0 → (if x.use = ⟨#[]⟩ then addF t [x] else polF m n t x.use).2.ok ∧ (if x.use = ⟨#[]⟩ then addF t [x] else polF m n t x.use).2.within = t.within ∧ t.out.length ≤ (if x.use = ⟨#[]⟩ then addF t [x] else polF m n t x.use).2.out.length := by
      by_cases he : x.use = ⟨#[]⟩
      · simp only [if_pos he]; exact addF_good ht
      · simp only [if_neg he]; exact polF_good m n _ _ ht
    rw [hps'] at hp
    obtain ⟨xu, ⟨xk, xd⟩, xr⟩ := x
    generalize (if (Part.mk xu ⟨xk, xd⟩ xr).use = ⟨#[]⟩ then addF t [Part.mk xu ⟨xk, xd⟩ xr] else polF m n t (Part.mk xu ⟨xk, xd⟩ xr).use) = q at hc hp hps' hgood
    refine wR (gI ?_)
    repeat' (first | refine fR ?_ (h6 := under6 (pure_m _) (pure_w _) (pure_k _)) | ((first | refine C_r ?_ | refine C0_r ?_ | refine O_r ?_ | refine R_r ?_); (conv => whnf); first | (refine ⟨fun hb => ?_, fun hb => ?_⟩ <;> try exact no_way) | refine A_o ?_ | refine B_o ?_ | refine C_o ?_ | refine R_o ?_ | refine fR ?_ | refine fRk ?_ | refine F_o ?_) | refine fun k => WL.crp [0, 1, 2, 3, 4] (stF m t) _ _ hc (oW ?_ _) (under6 (pure_m _) (pure_w _) (pure_k _)) (under7 (pure_m _) (pure_w _) (pure_k _)) | refine SA_l ?_ | refine V_l ?_ | refine L_l ?_ | refine Q_l ?_ | refine X_l ?_ | refine Xa_l ?_ | refine Xs_l ?_ | refine K_l ?_ | refine Ka_l ?_ | refine Lk_l ?_ | refine Up_l ?_ | refine Del_l ?_ | refine St_l ?_ | refine LU_l ?_ | refine Xw_l ?_ | refine Le_l ?_ | refine Se_l ?_ | refine M_l ?_ | refine A_l ?_ | refine A0_l ?_ | refine A1_l ?_ | refine Mk_l ?_ | refine Kz_l ?_ | refine W_l ?_ | fail)
    · have hz : q.1 ≠ 0 := by simpa using hb
      rw [if_neg hz] at hp
      rw [hp, if_neg hz]
      exact ⟨rfl, rfl⟩
    · have hz : q.1 = 0 := by simpa using hb
      rw [if_pos hz] at hp
      have hg := hgood hz
      refine rE (ih (done ++ [⟨xu, ⟨xk, xd⟩, xr⟩]) _ q.2 _ _ _ (by rw [hl]; simp) ?_ rfl rfl rfl hp hg.1 (by rw [hg.2.1, hw]) (Nat.le_trans hlen hg.2.2)) (ht := trimI rfl (under8 (ds := [.sc (.string name), .list (ps.map Part.row)]) (pure_m _) (pure_w _) (pure_k _)))
      rw [wrap_ok (by omega) (by omega)]; simp [hj]
end Go.Proofs.YtjjhckmnnaafkaaGreatDoor
namespace Go.Proofs.YtjjhckmnnaafkaaGreatDoor
open Go Go.Am Go.Proofs
attribute [local irreducible] W WL DL WO RoundEnd
set_option maxRecDepth 10000
set_option maxHeartbeats 4000000
/-- policies by name -/
def polsM (l : List Pol) : AL (List Part) := l.map fun p => (p.name, p.parts)
/-- is a name there twice? -/
def dup : AL (List Part) → List Pol → Bool
  | _, [] => false
  | m, x :: r => if (fk x.name m 0).isSome then true else dup (m ++ [(x.name, x.parts)]) r
def namesF (g : Fl → ByteArray → Int × Fl) : Fl → List ByteArray → Int × Fl
  | s, [] => (0, s)
  | s, x :: r => let q := g s x; if q.1 = 0 then namesF g q.2 r else q
/-- a part that uses none -/
def Part.strip (p : Part) : Part := ⟨⟨#[]⟩, p.act, p.rules⟩
def startF : Fl := ⟨[], [], []⟩
def flatF (l : List Pol) (names : List ByteArray) : List Part × Int :=
  if dup [] l then ([], 8)
  else let q := namesF (polF (polsM l) (l.length + 1)) startF names
    if q.1 = 0 then (q.2.out.map Part.strip, 0) else ([], q.1)
/-- all parts are so -/
def Fl.alls (P : Part → Prop) (s : Fl) : Prop := (∀ x ∈ s.out, P x) ∧ ∀ p ∈ s.known, ∀ x ∈ p.2, P x
theorem addF_alls {P : Part → Prop} {s : Fl} {l : List Part} (h : s.alls P) (hl : ∀ x ∈ l, P x) : (addF s l).2.alls P :=
  ⟨fun x hx => by rcases List.mem_append.1 hx with hx | hx; exact h.1 x hx; exact hl x hx, h.2⟩
theorem partsF_alls {P : Part → Prop} {g : Fl → ByteArray → Int × Fl} (hg : ∀ s name, s.alls P → (g s name).2.alls P) : ∀ (l : List Part) (s : Fl), (∀ x ∈ l, P x) → s.alls P → (partsF g s l).2.alls P
  | [], s, _, h => h
  | x :: r, s, hl, h => by
    have h1 : (if x.use = ⟨#[]⟩ then addF s [x] else g s x.use).2.alls P := by
      by_cases he : x.use = ⟨#[]⟩
      · simp only [if_pos he]; exact addF_alls h (by intro y hy; simp at hy; subst hy; exact hl _ (by simp))
      · simp only [if_neg he]; exact hg _ _ h
    simp only [partsF]
    generalize (if x.use = ⟨#[]⟩ then addF s [x] else g s x.use) = q at h1 ⊢
    by_cases hz : q.1 = 0
    · rw [if_pos hz]; exact partsF_alls hg r _ (fun y hy => hl y (by simp [hy])) h1
    · rw [if_neg hz]; exact h1
theorem polF_alls {P : Part → Prop} (m : AL (List Part)) (hm : ∀ p ∈ m, ∀ x ∈ p.2, P x) : ∀ (n : Nat) (s : Fl) (name : ByteArray), s.alls P → (polF m n s name).2.alls P
  | 0, s, _, h => h
  | n + 1, s, name, h => by
    simp only [polF]
    split
    · exact h
    · rename_i ps h1
      have hps := hm _ (fk_mem h1)
      split
      · exact h
      · split
        · rename_i h3; exact addF_alls h (h.2 _ (fk_mem h3))
        · have h2 := partsF_alls (polF_alls m hm n) ps { s with within := s.within ++ [(name, ())] } hps h
          split
          · refine ⟨h2.1, fun p hp => ?_⟩
            rcases setK_mem hp with hp | rfl
            · exact h2.2 p hp
            · exact fun x hx => h2.1 x (List.mem_of_mem_drop hx)
          · exact h2
theorem polsM_app (l : List Pol) (x : Pol) : entsM (polsM (l ++ [x])) = entsM (polsM l) ++ [(.string x.name, .agg [.d (.sc (.string x.name)), .d (.list (x.parts.map Part.row))])] := by
  simp [polsM, entsM, encP]
theorem polsM_app' (l : List Pol) (x : Pol) : polsM (l ++ [x]) = polsM l ++ [(x.name, x.parts)] := by simp [polsM]
theorem room_le (m : AL (List Part)) (w : AL Unit) : room m w ≤ m.length := by
  simp only [room]; exact Nat.le_trans (List.length_filter_le _ _) (by simp)
theorem under9 {E1 E2 E3 : MapE} (h1 : pureE E1) (h2 : pureE E2) (h3 : pureE E3) {n1 n2 : Nat} {r1 r2 r3 : List (List D)} {a1 a2 a3 a4 b1 b2 b3 : D} :
    ([Ob.map E1, .map E2, .map E3, .var [.map 0, .map 1, .map 2, .arr 4 0 n1], .arr 0 false 4 r1, .arr 0 false 4 r2, .var [.d a1, .d a2, .d a3, .d a4], .var [.d b1, .d b2, .d b3, .arr 8 0 n2], .arr 0 false 3 r3].all fun o => o.under (alive [Ob.map E1, .map E2, .map E3, .var [.map 0, .map 1, .map 2, .arr 4 0 n1], .arr 0 false 4 r1, .arr 0 false 4 r2, .var [.d a1, .d a2, .d a3, .d a4], .var [.d b1, .d b2, .d b3, .arr 8 0 n2], .arr 0 false 3 r3])) = true := by
  simp only [List.all_cons, List.all_nil, Ob.under, h1 _, h2 _, h3 _, Bool.true_and, Bool.and_true]
  rfl
theorem under10 {E1 E2 E3 : MapE} (h1 : pureE E1) (h2 : pureE E2) (h3 : pureE E3) {n1 : Nat} {r1 r2 : List (List D)} :
    ([Ob.map E1, .map E2, .map E3, .var [.map 0, .map 1, .map 2, .arr 4 0 n1], .arr 0 false 4 r1, .arr 0 false 4 r2].all fun o => o.under (alive [Ob.map E1, .map E2, .map E3, .var [.map 0, .map 1, .map 2, .arr 4 0 n1], .arr 0 false 4 r1, .arr 0 false 4 r2])) = true := by
  simp only [List.all_cons, List.all_nil, Ob.under, h1 _, h2 _, h3 _, Bool.true_and, Bool.and_true]
  rfl
theorem flatR (l : List Pol) (names : List ByteArray) (hl : l.length ≤ 100) (hn : names.length ≤ 100) (hm : ∀ p ∈ l, p.parts.length * 56 ≤ 2 ^ 47) (hr : ∀ p ∈ l, ∀ x ∈ p.parts, x.ok) :
    Comp Tryz.prog 15 [lst Pol.row l, lst strow names] (.tup [.one (.d (.list ((flatF l names).1.map Part.row))), .one (.d (.sc (.int .i64 (flatF l names).2)))]) := by
  refine Spec.body (C := cx [(14, false)] 96) fits (fn := Tryz.f15) Tryz.func15 rfl (by decide) (by decide) (gI ?_)
  refine STD wz ?_ <;> (repeat' (first | exact Wl.mk | refine wy1 ?_ ?_)) <;> repeat (intro hb; have hx := wy5 hb; clear hx)
  refine gA 3 3 false 4 ?_
  refine wLoop [1, 6, 25, 26, 27] 5 (l.length + 1) ?_
  refine (fun key => key l [] _ rfl rfl rfl :
    (∀ (rest done : List Pol) (j : Int), l = done ++ rest → j = done.length → dup [] l = dup (polsM done) rest →
    WR2 _ _ _ _ _ (rest.length + 1) [(1, lst strow names), (6, .one (.ptr 3 0)), (25, lst Pol.row l), (26, int .i64 (l.map Pol.row).length), (27, int .i64 j)]
      [.map (entsM (polsM done)), .map (ents encW []), .map (ents encK []), .var [.map 0, .map 1, .map 2, .arr 4 0 (([] : List Part).map Part.row).length], .arr 0 false 4 (([] : List Part).map Part.row)]) → _) ?_
  intro rest
  induction rest with
  | nil =>
    intro done j hl1 hj hd
    have hlen : l.length = done.length := by subst hl1; simp
    refine wR (gI ?_)
    refine STD wz ?_ <;> (repeat' (first | exact Wl.mk | refine wy1 ?_ ?_)) <;> repeat (intro hb; have hx := wy5 hb; clear hx)
    have hll : l = done := by simpa using hl1
    subst hll
    have hdf : dup [] l = false := by rw [hd]; rfl
    refine wLoop [6, 50, 51, 52] 5 (names.length + 1) ?_
    refine (fun key => key names [] _ startF rfl rfl rfl ⟨by decide, by intro p hp; cases hp⟩ rfl ⟨(by intro p hp; cases hp), (by intro p hp; cases hp)⟩ :
      (∀ (rest done : List ByteArray) (j : Int) (s : Fl), names = done ++ rest → j = done.length → namesF (polF (polsM l) (l.length + 1)) startF names = namesF (polF (polsM l) (l.length + 1)) s rest → s.ok → s.within = [] → s.alls Part.ok →
      WR2 _ _ _ _ _ (rest.length + 1) [(6, .one (.ptr 3 0)), (50, lst strow names), (51, int .i64 (names.map strow).length), (52, int .i64 j)]
        [.map (entsM (polsM l)), .map (ents encW s.within), .map (ents encK s.known), .var [.map 0, .map 1, .map 2, .arr 4 0 (s.out.map Part.row).length], .arr 0 false 4 (s.out.map Part.row)]) → _) ?_
    intro rest
    induction rest with
    | nil =>
      intro done j s hl1 hj hq hs hw hall
      have hlen : names.length = done.length := by subst hl1; simp
      refine wR (gI ?_)
      refine STD wz ?_ <;> (repeat' (first | exact Wl.mk | refine wy1 ?_ ?_)) <;> repeat (intro hb; have hx := wy5 hb; clear hx)
      have hso := hs.1
      refine wLoop [14, 66, 67, 68] 6 (s.out.length + 1) ?_
      refine (fun key => key s.out [] _ rfl rfl :
        (∀ (rest done : List Part) (j : Int), s.out = done ++ rest → j = done.length →
        WR2 _ _ _ _ _ (rest.length + 1) [(14, .one (.arr 5 0 ((done.map Part.strip).map Part.row).length)), (66, .one (.arr 4 0 (s.out.map Part.row).length)), (67, int .i64 (s.out.map Part.row).length), (68, int .i64 j)]
          [.map (entsM (polsM l)), .map (ents encW s.within), .map (ents encK s.known), .var [.map 0, .map 1, .map 2, .arr 4 0 (s.out.map Part.row).length], .arr 0 false 4 (s.out.map Part.row), .arr 0 false 4 ((done.map Part.strip).map Part.row)]) → _) ?_
      intro rest
      induction rest with
      | nil =>
        intro done j hl1 hj
        have hlen : s.out.length = done.length := by rw [hl1]; simp
        refine wR (gI ?_)
        refine STD wz ?_ <;> (repeat' (first | exact Wl.mk | refine wy1 ?_ ?_)) <;> repeat (intro hb; have hx := wy5 hb; clear hx)
        have hdd : done = s.out := by rw [hl1]; simp
        subst hdd
        exact ⟨by simp only [flatF, hdf, hq]; rfl, rfl⟩
      | cons x rest ih =>
        intro done j hl1 hj
        have hlen : s.out.length = done.length + (rest.length + 1) := by rw [hl1]; simp
        have hxo : x.ok := hall.1 x (by rw [hl1]; simp)
        obtain ⟨xu, ⟨xk, xd⟩, xr⟩ := x
        refine wR (gI ?_)
        refine STD wz ?_ <;> (repeat' (first | exact Wl.mk | refine wy1 ?_ ?_)) <;> repeat (intro hb; have hx := wy5 hb; clear hx)
        refine gA 7 3 false 3 ?_
        refine wLoop [14, 16, 17, 66, 67, 68, 76, 77, 78] 9 (xr.length + 1) ?_
        refine (fun key => key xr [] _ rfl rfl :
          (∀ (rest2 done2 : List Rule) (j2 : Int), xr = done2 ++ rest2 → j2 = done2.length →
          WR2 _ _ _ _ _ (rest2.length + 1) [(14, .one (.arr 5 0 ((done.map Part.strip).map Part.row).length)), (16, .one (.ptr 6 0)), (17, .one (.ptr 7 0)), (66, .one (.arr 4 0 (s.out.map Part.row).length)), (67, int .i64 (s.out.map Part.row).length), (68, int .i64 j), (76, lst Rule.row xr), (77, int .i64 (xr.map Rule.row).length), (78, int .i64 j2)]
            [.map (entsM (polsM l)), .map (ents encW s.within), .map (ents encK s.known), .var [.map 0, .map 1, .map 2, .arr 4 0 (s.out.map Part.row).length], .arr 0 false 4 (s.out.map Part.row), .arr 0 false 4 ((done.map Part.strip).map Part.row),
             .var [.d (.sc (.string xu)), .d (.sc (.int .i64 xk)), .d (.sc (.int .i64 xd)), .d (.list (xr.map Rule.row))], .var [.d (.sc (.string ⟨#[]⟩)), .d (.sc (.int .i64 xk)), .d (.sc (.int .i64 xd)), .arr 8 0 (done2.map Rule.row).length], .arr 0 false 3 (done2.map Rule.row)]) → _) ?_
        intro rest2
        induction rest2 with
        | nil =>
          intro done2 j2 hl2 hj2
          have hlen2 : xr.length = done2.length := by rw [hl2]; simp
          have hdd : done2 = xr := by rw [hl2]; simp
          subst hdd
          refine wR (gI ?_)
          refine STD wz ?_ <;> (repeat' (first | exact Wl.mk | refine wy1 ?_ ?_)) <;> repeat (intro hb; have hx := wy5 hb; clear hx)
          have g := ih (done ++ [⟨xu, ⟨xk, xd⟩, done2⟩]) (IntKind.wrap .i64 (j + 1)) (by rw [hl1]; simp) (by rw [wrap_ok (by omega) (by omega)]; simp [hj])
          rw [List.map_append, List.map_append] at g
          exact rE g (ht := trimI rfl (under10 (pure_m _) (pure_w _) (pure_k _)))
        | cons y rest2 ih2 =>
          intro done2 j2 hl2 hj2
          have hlen2 : xr.length = done2.length + (rest2.length + 1) := by rw [hl2]; simp
          have hyo : y.ok := hxo.2 y (by rw [hl2]; simp)
          have hc := copyR y hyo
          have hxl := hxo.1
          simp only at hxl
          obtain ⟨yc, yp, yq⟩ := y
          refine wR (gI ?_)
          refine STD (wc hc wz) ?_ <;> (repeat' (first | exact Wl.mk | refine wy1 ?_ ?_)) <;> repeat (intro hb; have hx := wy5 hb; clear hx)
          have g := ih2 (done2 ++ [⟨yc, yp, yq⟩]) (IntKind.wrap .i64 (j2 + 1)) (by rw [hl2]; simp) (by rw [wrap_ok (by omega) (by omega)]; simp [hj2])
          rw [List.map_append] at g
          exact rE g (ht := trimI rfl (under9 (pure_m _) (pure_w _) (pure_k _)))
    | cons x rest ih =>
      intro done j s hl1 hj hq hs hw hall
      have hlen : names.length = done.length + (rest.length + 1) := by subst hl1; simp
      have hmm : ∀ p ∈ polsM l, p.2.length * 56 ≤ 2 ^ 47 := by
        intro p hp
        obtain ⟨q, hq, rfl⟩ := List.mem_map.1 hp
        exact hm q hq
      have hc := policyR (polsM l) hmm (l.length + 1) s x hs (by have := room_le (polsM l) s.within; simp [polsM] at this ⊢; omega)
      have hg := polF_good (polsM l) (l.length + 1) s x hs
      have hga := polF_alls (P := Part.ok) (polsM l) (by intro p hp; obtain ⟨q, hq, rfl⟩ := List.mem_map.1 hp; exact hr q hq) (l.length + 1) s x hall
      have hq' : namesF (polF (polsM l) (l.length + 1)) s (x :: rest) = (if (polF (polsM l) (l.length + 1) s x).1 = 0 then namesF (polF (polsM l) (l.length + 1)) (polF (polsM l) (l.length + 1) s x).2 rest else polF (polsM l) (l.length + 1) s x) := rfl
      rw [hq'] at hq
      generalize (polF (polsM l) (l.length + 1) s x) = q at hc hg hga hq hq'
      refine wR (gI ?_)
      repeat' (first | refine fR ?_ (h6 := under6 (pure_m _) (pure_w _) (pure_k _)) | ((first | refine C_r ?_ | refine C0_r ?_ | refine O_r ?_ | refine R_r ?_); (conv => whnf); first | (refine ⟨fun hb => ?_, fun hb => ?_⟩ <;> try exact no_way) | refine A_o ?_ | refine B_o ?_ | refine C_o ?_ | refine R_o ?_ | refine fR ?_ | refine fRk ?_ | refine F_o ?_) | refine fun k => WL.crp [0, 1, 2, 3, 4] (stF (polsM l) s) _ _ hc (oW ?_ _) (under6 (pure_m _) (pure_w _) (pure_k _)) (under7 (pure_m _) (pure_w _) (pure_k _)) | refine SA_l ?_ | refine V_l ?_ | refine L_l ?_ | refine Q_l ?_ | refine X_l ?_ | refine Xa_l ?_ | refine Xs_l ?_ | refine K_l ?_ | refine Ka_l ?_ | refine Lk_l ?_ | refine Up_l ?_ | refine Del_l ?_ | refine St_l ?_ | refine LU_l ?_ | refine Xw_l ?_ | refine Le_l ?_ | refine Se_l ?_ | refine M_l ?_ | refine A_l ?_ | refine A0_l ?_ | refine A1_l ?_ | refine Mk_l ?_ | refine Kz_l ?_ | refine W_l ?_ | refine SA_d ?_ | refine V_d ?_ | refine L_d ?_ | refine Q_d ?_ | refine X_d ?_ | refine Xs_d ?_ | refine K_d ?_ | refine Ka_d ?_ | refine Lk_d ?_ | refine Up_d ?_ | refine A_d ?_ | refine A0_d ?_ | refine St_d ?_ | refine LU_d ?_ | refine Xw_d ?_ | refine Le_d ?_ | refine Se_d ?_ | refine M_d ?_ | refine Mk_d ?_ | refine N_d ?_ | refine Kz_d ?_ | refine W_d ?_ | fail)
      · have hz : q.1 ≠ 0 := by simpa using hb
        rw [if_neg hz] at hq
        exact ⟨by simp only [flatF, hdf, hq, if_neg hz]; rfl, rfl⟩
      · have hz : q.1 = 0 := by simpa using hb
        rw [if_pos hz] at hq
        have hg := hg hz
        refine rE (ih (done ++ [x]) _ q.2 (by rw [hl1]; simp) ?_ hq hg.1 (by rw [hg.2.1, hw]) hga) (ht := trimI rfl (under6 (pure_m _) (pure_w _) (pure_k _)))
        rw [wrap_ok (by omega) (by omega)]; simp [hj]
  | cons x rest ih =>
    intro done j hl1 hj hd
    have hlen : l.length = done.length + (rest.length + 1) := by subst hl1; simp
    obtain ⟨nm, ps⟩ := x
    rcases h1 : fk nm (polsM done) 0 with _ | ⟨i1, ps'⟩
    · have k1 : findKey (.string nm) (entsM (polsM done)) 0 = some none := by rw [findKey_m, h1]; rfl
      refine wR (gI ?_)
      repeat' (first | refine fR ?_ (h6 := under6 (pure_m _) (pure_w _) (pure_k _)) | ((first | refine C_r ?_ | refine C0_r ?_ | refine O_r ?_ | refine R_r ?_); (conv => whnf); first | (refine ⟨fun hb => ?_, fun hb => ?_⟩ <;> try exact no_way) | refine A_o ?_ | refine B_o ?_ | refine C_o ?_ | refine R_o ?_ | refine fR ?_ | refine fRk ?_ | refine F_o ?_) | refine SA_l ?_ | refine V_l ?_ | refine L_l ?_ | refine Q_l ?_ | refine X_l ?_ | refine Xa_l ?_ | refine Xs_l ?_ | refine K_l ?_ | refine Ka_l ?_ | refine Lk_l ?_ | refine Up_l ?_ | refine Del_l ?_ | refine St_l ?_ | refine LU_l ?_ | refine Xw_l ?_ | refine Le_l ?_ | refine Se_l ?_ | refine M_l ?_ | refine A_l ?_ | refine A0_l ?_ | refine A1_l ?_ | refine Mk_l ?_ | refine Kz_l ?_ | refine W_l ?_ | refine SA_d ?_ | refine V_d ?_ | refine L_d ?_ | refine Q_d ?_ | refine X_d ?_ | refine Xs_d ?_ | refine K_d ?_ | refine Ka_d ?_ | refine Lk_d ?_ | refine Up_d ?_ | refine A_d ?_ | refine A0_d ?_ | refine St_d ?_ | refine LU_d ?_ | refine Xw_d ?_ | refine Le_d ?_ | refine Se_d ?_ | refine M_d ?_ | refine Mk_d ?_ | refine N_d ?_ | refine Kz_d ?_ | refine W_d ?_ | fail)
      have g := ih (done ++ [⟨nm, ps⟩]) (IntKind.wrap .i64 (j + 1)) (by rw [hl1]; simp) (by rw [wrap_ok (by omega) (by omega)]; simp [hj]) (by rw [hd, polsM_app']; simp only [dup, h1]; rfl)
      rw [polsM_app] at g
      exact rE g (ht := trimI rfl (under6 (by intro L; simp only [mapSet, List.all_append, pure_m _ L, List.all_cons, List.all_nil]; rfl) (pure_w _) (pure_k _)))
    · have k1 : findKey (.string nm) (entsM (polsM done)) 0 = some (some (i1, encP ps' nm)) := by rw [findKey_m, h1]; rfl
      refine wR (gI ?_)
      repeat' (first | refine fR ?_ (h6 := under6 (pure_m _) (pure_w _) (pure_k _)) | ((first | refine C_r ?_ | refine C0_r ?_ | refine O_r ?_ | refine R_r ?_); (conv => whnf); first | (refine ⟨fun hb => ?_, fun hb => ?_⟩ <;> try exact no_way) | refine A_o ?_ | refine B_o ?_ | refine C_o ?_ | refine R_o ?_ | refine fR ?_ | refine fRk ?_ | refine F_o ?_) | refine SA_l ?_ | refine V_l ?_ | refine L_l ?_ | refine Q_l ?_ | refine X_l ?_ | refine Xa_l ?_ | refine Xs_l ?_ | refine K_l ?_ | refine Ka_l ?_ | refine Lk_l ?_ | refine Up_l ?_ | refine Del_l ?_ | refine St_l ?_ | refine LU_l ?_ | refine Xw_l ?_ | refine Le_l ?_ | refine Se_l ?_ | refine M_l ?_ | refine A_l ?_ | refine A0_l ?_ | refine A1_l ?_ | refine Mk_l ?_ | refine Kz_l ?_ | refine W_l ?_ | refine SA_d ?_ | refine V_d ?_ | refine L_d ?_ | refine Q_d ?_ | refine X_d ?_ | refine Xs_d ?_ | refine K_d ?_ | refine Ka_d ?_ | refine Lk_d ?_ | refine Up_d ?_ | refine A_d ?_ | refine A0_d ?_ | refine St_d ?_ | refine LU_d ?_ | refine Xw_d ?_ | refine Le_d ?_ | refine Se_d ?_ | refine M_d ?_ | refine Mk_d ?_ | refine N_d ?_ | refine Kz_d ?_ | refine W_d ?_ | fail)
      have hdt : dup [] l = true := by rw [hd]; simp only [dup, h1]; rfl
      exact ⟨by simp only [flatF, hdt]; rfl, rfl⟩
end Go.Proofs.YtjjhckmnnaafkaaGreatDoor
namespace Go.Proofs.YtjjhckmnnaafkaaGreatDoor
open Go Go.Am Go.Proofs
attribute [local irreducible] W WL DL WO RoundEnd
set_option maxRecDepth 10000
set_option maxHeartbeats 4000000
/-- the last of a name -/
def atF (name : ByteArray) : Int → Int → List Pol → Int
  | a, _, [] => a
  | a, j, x :: r => atF name (if x.name = name then j else a) (j + 1) r
/-- the policy of a name: its parts -/
def lastOf (l : List Pol) (name : ByteArray) : Option (List Part) :=
  match l with
  | [] => none
  | x :: r => match lastOf r name with
    | some p => some p
    | none => if x.name = name then some x.parts else none
theorem atF_last (name : ByteArray) : ∀ (r : List Pol) (a j : Int), atF name a j r = a ∧ lastOf r name = none ∨ ∃ (i : Nat) (p : Pol), atF name a j r = j + i ∧ r[i]? = some p ∧ lastOf r name = some p.parts
  | [], a, j => .inl ⟨rfl, rfl⟩
  | x :: r, a, j => by
    rcases atF_last name r (if x.name = name then j else a) (j + 1) with ⟨h1, h2⟩ | ⟨i, p, h1, h2, h3⟩
    · by_cases hx : x.name = name
      · refine .inr ⟨0, x, ?_, rfl, by simp [lastOf, h2, hx]⟩
        show atF name (if x.name = name then j else a) (j + 1) r = _
        rw [h1, if_pos hx]; simp
      · exact .inl ⟨by show atF name (if x.name = name then j else a) (j + 1) r = a; rw [h1, if_neg hx], by simp [lastOf, h2, hx]⟩
    · exact .inr ⟨i + 1, p, by simp only [atF, h1]; omega, by simpa using h2, by simp [lastOf, h3]⟩
/-- the document's way, in Lean; c: how many parts so far; n: how deep at most -/
def rPartsF (g : Nat → ByteArray → (List Part × Int) × Nat) : Nat → List Part → List Part → (List Part × Int) × Nat
  | c, out, [] => ((out, 0), c)
  | c, out, x :: r =>
    if x.use = ⟨#[]⟩ then
      if c + 1 > 500 then (([], 9), c + 1) else rPartsF g (c + 1) (out ++ [x]) r
    else if (g c x.use).1.2 = 0 then rPartsF g (g c x.use).2 (out ++ (g c x.use).1.1) r else (([], (g c x.use).1.2), (g c x.use).2)
def refF (l : List Pol) : Nat → List ByteArray → Nat → ByteArray → (List Part × Int) × Nat
  | 0, _, c, _ => (([], 0), c)
  | n + 1, op, c, name =>
    match lastOf l name with
    | none => (([], 7), c)
    | some ps => if op.any (· == name) then (([], 5), c) else rPartsF (refF l n (op ++ [name])) c [] ps
theorem rParts_good {g : Nat → ByteArray → (List Part × Int) × Nat} (hg : ∀ c s, c ≤ 500 → (g c s).1.2 = 0 → (g c s).1.1.length + c ≤ (g c s).2 ∧ (g c s).2 ≤ 500) :
    ∀ (ps : List Part) (c : Nat) (out : List Part), c ≤ 500 → (rPartsF g c out ps).1.2 = 0 → (rPartsF g c out ps).1.1.length + c ≤ (rPartsF g c out ps).2 + out.length ∧ (rPartsF g c out ps).2 ≤ 500
  | [], c, out, h, _ => ⟨by simp only [rPartsF]; omega, h⟩
  | x :: r, c, out, h, h0 => by
    simp only [rPartsF] at h0 ⊢
    by_cases hx : x.use = ⟨#[]⟩
    · simp only [if_pos hx] at h0 ⊢
      by_cases hc : c + 1 > 500
      · simp only [if_pos hc] at h0; simp at h0
      · simp only [if_neg hc] at h0 ⊢
        have := rParts_good hg r (c + 1) (out ++ [x]) (by omega) h0
        simp only [List.length_append, List.length_cons, List.length_nil] at this
        omega
    · simp only [if_neg hx] at h0 ⊢
      by_cases hz : (g c x.use).1.2 = 0
      · simp only [if_pos hz] at h0 ⊢
        have h1 := hg c x.use h hz
        have := rParts_good hg r (g c x.use).2 (out ++ (g c x.use).1.1) h1.2 h0
        simp only [List.length_append] at this
        omega
      · simp only [if_neg hz] at h0; exact absurd h0 hz
theorem refF_good (l : List Pol) : ∀ (n : Nat) (op : List ByteArray) (c : Nat) (name : ByteArray), c ≤ 500 → (refF l n op c name).1.2 = 0 → (refF l n op c name).1.1.length + c ≤ (refF l n op c name).2 ∧ (refF l n op c name).2 ≤ 500
  | 0, op, c, name, h, _ => ⟨by simp [refF], h⟩
  | n + 1, op, c, name, h, h0 => by
    simp only [refF] at h0 ⊢
    split at h0
    · simp at h0
    · split at h0
      · simp at h0
      · rename_i hn
        rw [if_neg hn]
        have := rParts_good (refF_good l n (op ++ [name])) _ c [] h h0
        simpa using this
/-- how many policies are not open -/
def roomR (l : List Pol) (op : List ByteArray) : Nat := (l.filter fun p => !op.any (· == p.name)).length
theorem lastOf_mem {name : ByteArray} : ∀ {l : List Pol} {ps : List Part}, lastOf l name = some ps → ∃ p ∈ l, p.name = name ∧ p.parts = ps
  | [], ps, h => by simp [lastOf] at h
  | x :: r, ps, h => by
    simp only [lastOf] at h
    split at h
    · rename_i q hq
      obtain ⟨p, h1, h2⟩ := lastOf_mem hq
      injection h with h; subst h
      exact ⟨p, by simp [h1], h2⟩
    · split at h
      · rename_i hx; injection h with h; exact ⟨x, by simp, hx, h⟩
      · simp at h
theorem roomR_lt {l : List Pol} {op : List ByteArray} {name : ByteArray} {ps : List Part} (h1 : lastOf l name = some ps) (h2 : op.any (· == name) = false) : roomR l (op ++ [name]) < roomR l op := by
  obtain ⟨p, hp, hn, _⟩ := lastOf_mem h1
  have key : ∀ q : Pol, (!(op ++ [name]).any (· == q.name)) = (!(name == q.name) && !op.any (· == q.name)) := by
    intro q; simp [Bool.and_comm]
  simp only [roomR, key, ← List.filter_filter]
  rw [List.length_filter_lt_length_iff_exists]
  refine ⟨p, List.mem_filter.2 ⟨hp, by rw [hn, h2]; rfl⟩, by rw [hn]; simp [ba_beq]⟩
theorem refR (l : List Pol) (hl : l.length ≤ 100) (hm : ∀ p ∈ l, p.parts.length * 56 ≤ 2 ^ 47) : ∀ (n : Nat) (op : List ByteArray) (c : Nat) (name : ByteArray), c ≤ 500 → roomR l op < n → op.length + n ≤ 200 →
    Am.Spec Tryz.prog 48 [.one (.ptr 0 0), lst Pol.row l, str name, lst strow op] [.var [.d (.sc (.int .i64 c))]]
      (fun x s => x = .tup [.one (.d (.list ((refF l n op c name).1.1.map Part.row))), .one (.d (.sc (.int .i64 (refF l n op c name).1.2)))] ∧ s = [.var [.d (.sc (.int .i64 (refF l n op c name).2))]]) := by
  intro n
  induction n with
  | zero => intro op c name _ h; omega
  | succ n IH =>
  intro op c name hc hn ho
  have hin := inR op name (by omega)
  refine Spec.body (C := cx [(12, false), (37, false)] 94) fits (fn := Tryz.f48) Tryz.func48 rfl (by decide) (by decide) (gI ?_)
  refine ST wz ?_ <;> (repeat' (first | exact Wl.mk | refine wy1 ?_ ?_)) <;> repeat (intro hb; have hx := wy5 hb; clear hx)
  refine wLoop [0, 1, 2, 3, 10, 11] 1 (l.length + 1) ?_
  refine (fun key => key l [] _ _ rfl rfl rfl :
    (∀ (rest done : List Pol) (a j : Int), l = done ++ rest → j = done.length → atF name (-1) 0 l = atF name a j rest →
    WR2 _ _ _ _ _ (rest.length + 1) [(0, .one (.ptr 0 0)), (1, lst Pol.row l), (2, str name), (3, lst strow op), (10, int .i64 a), (11, int .i64 j)] [.var [.d (.sc (.int .i64 c))]]) → _) ?_
  intro rest
  induction rest with
  | cons x rest ih =>
    intro done a j hl1 hj ha
    have hlen : l.length = done.length + (rest.length + 1) := by rw [hl1]; simp
    obtain ⟨xn, xp⟩ := x
    refine wR (gI ?_)
    refine ST wz ?_ <;> (repeat' (first | exact Wl.mk | refine wy1 ?_ ?_)) <;> repeat (intro hb; have hx := wy5 hb; clear hx)
    · have hx : xn = name := by simpa [ba_beq] using hb
      refine rE (ih (done ++ [⟨xn, xp⟩]) _ _ (by rw [hl1]; simp) ?_ ?_)
      · rw [wrap_ok (by omega) (by omega)]; simp [hj]
      · rw [ha]; show atF name (if xn = name then j else a) (j + 1) rest = _; rw [if_pos hx, wrap_ok (by omega) (by omega)]
    · have hx : ¬ xn = name := by simpa [ba_beq] using hb
      refine rE (ih (done ++ [⟨xn, xp⟩]) _ _ (by rw [hl1]; simp) ?_ ?_)
      · rw [wrap_ok (by omega) (by omega)]; simp [hj]
      · rw [ha]; show atF name (if xn = name then j else a) (j + 1) rest = _; rw [if_neg hx, wrap_ok (by omega) (by omega)]
  | nil =>
    intro done a j hl1 hj ha
    have hlen : l.length = done.length := by rw [hl1]; simp
    simp only [atF] at ha
    rcases atF_last name l (-1) 0 with ⟨h1, h2⟩ | ⟨i, ⟨pn, ps⟩, h1, h2, h3⟩
    · have ha1 : a = -1 := by rw [← ha, h1]
      subst ha1
      refine wR (gI ?_)
      refine ST wz ?_ <;> (repeat' (first | exact Wl.mk | refine wy1 ?_ ?_)) <;> repeat (intro hb; have hx := wy5 hb; clear hx)
      exact ⟨by simp only [refF, h2]; rfl, by simp only [refF, h2]⟩
    · have ha1 : a = i := by rw [← ha, h1]; simp
      subst ha1
      have hi := (List.getElem?_eq_some_iff.1 h2).1
      refine wR (gI ?_)
      repeat' (first | ((first | refine C_r ?_ | refine C0_r ?_ | refine O_r ?_ | refine R_r ?_); (conv => whnf); first | (refine ⟨fun hb => ?_, fun hb => ?_⟩ <;> try exact no_way) | refine A_o ?_ | refine B_o ?_ | refine C_o ?_ | refine R_o ?_ | refine fR ?_ | refine fRk ?_ | refine F_o ?_) | refine B_l (hin) (fun h9 => ?_) fun h9 => ?_ | refine SA_l ?_ | refine V_l ?_ | refine L_l ?_ | refine Q_l ?_ | refine X_l ?_ | refine Xa_l ?_ | refine Xs_l ?_ | refine K_l ?_ | refine Ka_l ?_ | refine Lk_l ?_ | refine Up_l ?_ | refine Del_l ?_ | refine St_l ?_ | refine LU_l ?_ | refine Xw_l ?_ | refine Le_l ?_ | refine Se_l ?_ | refine M_l ?_ | refine A_l ?_ | refine A0_l ?_ | refine A1_l ?_ | refine Mk_l ?_ | refine Kz_l ?_ | refine W_l ?_ | fail)
      · exact ⟨by simp only [refF, h3, h9]; rfl, by simp only [refF, h3, h9]; rfl⟩
      have hpsl : ps.length * 56 ≤ 2 ^ 47 := by
        have := hm ⟨pn, ps⟩ (List.mem_of_getElem? h2)
        simpa using this
      have hroom := roomR_lt h3 h9
      have hres : refF l (n + 1) op c name = rPartsF (refF l n (op ++ [name])) c [] ps := by simp only [refF, h3, h9]; rfl
      rw [hres]
      refine wLoop [0, 1, 3, 10, 12, 13] 3 (ps.length + 1) ?_
      refine (fun key => key ps [] _ c [] rfl rfl rfl hc (Nat.zero_le _) :
        (∀ (rest done : List Part) (j : Int) (c' : Nat) (out : List Part), ps = done ++ rest → j = done.length → rPartsF (refF l n (op ++ [name])) c [] ps = rPartsF (refF l n (op ++ [name])) c' out rest → c' ≤ 500 → out.length ≤ c' →
        WR2 _ _ _ _ _ (rest.length + 1) [(0, .one (.ptr 0 0)), (1, lst Pol.row l), (3, .one (.arr 1 0 (op.map strow ++ [strow name]).length)), (10, int .i64 i), (12, .one (.arr 2 0 (out.map Part.row).length)), (13, int .i64 j)]
          [.var [.d (.sc (.int .i64 c'))], .arr 0 false 1 (op.map strow ++ [strow name]), .arr 0 false 4 (out.map Part.row)]) → _) ?_
      intro rest
      induction rest with
      | nil =>
        intro done j c' out hl1 hj hr hc' hout
        have hlen : ps.length = done.length := by rw [hl1]; simp
        refine wR (gI ?_)
        refine ST wz ?_ <;> (repeat' (first | exact Wl.mk | refine wy1 ?_ ?_)) <;> repeat (intro hb; have hx := wy5 hb; clear hx)
        rw [hr]
        exact ⟨rfl, rfl⟩
      | cons x rest ih =>
        intro done j c' out hl1 hj hr hc' hout
        have hlen : ps.length = done.length + (rest.length + 1) := by rw [hl1]; simp
        obtain ⟨xu, ⟨xk, xd⟩, xr⟩ := x
        have hq := IH (op ++ [name]) c' xu hc' (by omega) (by simp; omega)
        have hqg := refF_good l n (op ++ [name]) c' xu hc'
        have hr2 : rPartsF (refF l n (op ++ [name])) c' out (⟨xu, ⟨xk, xd⟩, xr⟩ :: rest) = (if xu = ⟨#[]⟩ then
          if c' + 1 > 500 then (([], 9), c' + 1) else rPartsF (refF l n (op ++ [name])) (c' + 1) (out ++ [⟨xu, ⟨xk, xd⟩, xr⟩]) rest
          else if (refF l n (op ++ [name]) c' xu).1.2 = 0 then rPartsF (refF l n (op ++ [name])) (refF l n (op ++ [name]) c' xu).2 (out ++ (refF l n (op ++ [name]) c' xu).1.1) rest else (([], (refF l n (op ++ [name]) c' xu).1.2), (refF l n (op ++ [name]) c' xu).2)) := rfl
        rw [hr2] at hr
        generalize refF l n (op ++ [name]) c' xu = q at hq hqg hr hr2
        have e1 : lst strow (op ++ [name]) = .one (.d (.list (op.map strow ++ [strow name]))) := by simp [lst]
        rw [e1] at hq
        refine wR (gI ?_)
        repeat' (first | ((first | refine C_r ?_ | refine C0_r ?_ | refine O_r ?_ | refine R_r ?_); (conv => whnf); first | (refine ⟨fun hb => ?_, fun hb => ?_⟩ <;> try exact no_way) | refine A_o ?_ | refine B_o ?_ | refine C_o ?_ | refine R_o ?_ | refine fR ?_ | refine fRk ?_ | refine F_o ?_) | refine fun k => WL.crpU [0] [.var [.d (.sc (.int .i64 c'))]] _ _ hq (oW ?_ _) | refine fun k => lA fits (oW ?_ _) (hsm := by have hz : q.1.2 = 0 := (by simpa using hb); have hz2 := hqg hz; simp only [most, List.length_map]; omega) | refine SA_l ?_ | refine V_l ?_ | refine L_l ?_ | refine Q_l ?_ | refine X_l ?_ | refine Xa_l ?_ | refine Xs_l ?_ | refine K_l ?_ | refine Ka_l ?_ | refine Lk_l ?_ | refine Up_l ?_ | refine Del_l ?_ | refine St_l ?_ | refine LU_l ?_ | refine Xw_l ?_ | refine Le_l ?_ | refine Se_l ?_ | refine M_l ?_ | refine A_l ?_ | refine A0_l ?_ | refine A1_l ?_ | refine Mk_l ?_ | refine Kz_l ?_ | refine W_l ?_ | fail)
        · have hx : xu = ⟨#[]⟩ := by
            have h : (xu == ⟨#[]⟩) = true := by assumption
            simpa [ba_beq] using h
          have hc9 : c' + 1 > 500 := by
            rw [wrap_ok (by omega) (by omega)] at hb; simp at hb; omega
          rw [if_pos hx, if_pos hc9] at hr
          rw [hr]
          exact ⟨rfl, by rw [wrap_ok (by omega) (by omega)]; rfl⟩
        · have hx : xu = ⟨#[]⟩ := by
            have h : (xu == ⟨#[]⟩) = true := by assumption
            simpa [ba_beq] using h
          have hc9 : ¬ c' + 1 > 500 := by
            rw [wrap_ok (by omega) (by omega)] at hb; simp at hb; omega
          rw [if_pos hx, if_neg hc9] at hr
          have g := ih (done ++ [⟨xu, ⟨xk, xd⟩, xr⟩]) (IntKind.wrap .i64 (j + 1)) (c' + 1) (out ++ [⟨xu, ⟨xk, xd⟩, xr⟩]) (by rw [hl1]; simp) (by rw [wrap_ok (by omega) (by omega)]; simp [hj]) hr (by omega) (by simp; omega)
          rw [List.map_append] at g
          have e2 : ((c' + 1 : Nat) : Int) = IntKind.wrap .i64 ((c' : Int) + 1) := by rw [wrap_ok (by omega) (by omega)]; rfl
          rw [e2] at g
          exact rE g
        · have hx : ¬ xu = ⟨#[]⟩ := by
            have h : (xu == ⟨#[]⟩) = false := by assumption
            simpa [ba_beq] using h
          have hz : ¬ q.1.2 = 0 := by simpa using hb
          rw [if_neg hx, if_neg hz] at hr
          rw [hr]
          exact ⟨rfl, rfl⟩
        · have hx : ¬ xu = ⟨#[]⟩ := by
            have h : (xu == ⟨#[]⟩) = false := by assumption
            simpa [ba_beq] using h
          have hz : q.1.2 = 0 := by simpa using hb
          rw [if_neg hx, if_pos hz] at hr
          have hq2 := hqg hz
          have g := ih (done ++ [⟨xu, ⟨xk, xd⟩, xr⟩]) (IntKind.wrap .i64 (j + 1)) q.2 (out ++ q.1.1) (by rw [hl1]; simp) (by rw [wrap_ok (by omega) (by omega)]; simp [hj]) hr hq2.2 (by simp; omega)
          rw [List.map_append] at g
          exact rE g
end Go.Proofs.YtjjhckmnnaafkaaGreatDoor
namespace Go.Proofs.YtjjhckmnnaafkaaGreatDoor
open Go Go.Am Go.Proofs
attribute [local irreducible] W WL DL WO RoundEnd
set_option maxRecDepth 10000
set_option maxHeartbeats 4000000
mutual
def sizeF : Ex → Nat → Int
  | .mk _ o n _ l, d => if d > 100 ∨ n.size > 60 ∨ o.size > 20 then 1000 else sizesF l (d + 1) 1
def sizesF : List Ex → Nat → Int → Int
  | [], _, n => n
  | x :: l, d, n => if n < 1000 then sizesF l d (n + sizeF x d) else n
end
mutual
theorem sizeF_le : ∀ (e : Ex) (d : Nat), d ≤ 101 → 1 ≤ sizeF e d ∧ sizeF e d ≤ 1000 * (102 - (d : Int))
  | .mk k o n u l, d, h => by
    rw [sizeF]
    split
    · omega
    · rename_i hn
      have hd : d ≤ 100 := by omega
      have := sizesF_le l (d + 1) 1 (by omega) (by omega) (by omega)
      omega
theorem sizesF_le : ∀ (l : List Ex) (d : Nat) (n : Int), d ≤ 101 → 1 ≤ n → n ≤ 999 + 1000 * (102 - (d : Int)) → 1 ≤ sizesF l d n ∧ sizesF l d n ≤ 999 + 1000 * (102 - (d : Int))
  | [], d, n, h, h1, h2 => by rw [sizesF]; exact ⟨h1, h2⟩
  | x :: l, d, n, h, h1, h2 => by
    rw [sizesF]
    have hx := sizeF_le x d h
    split
    · exact sizesF_le l d _ h (by omega) (by omega)
    · exact ⟨h1, h2⟩
end
theorem sizeR : ∀ (n : Nat) (e : Ex) (d : Nat), e.size < n → d ≤ 101 → Comp Tryz.prog 51 [.agg (e.row.map .d), int .i64 d] (int .i64 (sizeF e d)) := by
  intro n
  induction n with
  | zero => intro e d h; omega
  | succ n IH =>
  intro e d hn hd
  obtain ⟨k, o, nm, u, l⟩ := e
  have el : Ex.rows l = l.map Ex.row := Ex.rows_eq l
  simp only [Ex.row, el, List.map_cons, List.map_nil]
  refine Spec.body (C := cx [] 43) fits (fn := Tryz.f51) Tryz.func51 rfl (by decide) (by decide) (gI ?_)
  refine ST wz ?_ <;> (repeat' (first | exact Wl.mk | refine wy1 ?_ ?_)) <;> repeat (intro hb; have hx := wy5 hb; clear hx)
  · exact ⟨by rw [sizeF, if_pos (by simp at hb; omega)]; rfl, rfl⟩
  · exact ⟨by rw [sizeF, if_pos (by simp at hb; omega)]; rfl, rfl⟩
  · exact ⟨by rw [sizeF, if_pos (by simp at hb; omega)]; rfl, rfl⟩
  have a1 : decide ((d : Int) > 100) = false := by assumption
  have a2 : decide ((nm.size : Int) > 60) = false := by assumption
  have a3 : decide ((o.size : Int) > 20) = false := by assumption
  simp only [decide_eq_false_iff_not] at a1 a2 a3
  have hres : sizeF (Ex.mk k o nm u l) d = sizesF l (d + 1) 1 := by rw [sizeF, if_neg (by omega)]
  rw [hres]
  refine wLoop [1, 2, 5, 6] 1 (l.length + 1) ?_
  refine (fun key => key l [] _ _ rfl rfl rfl (Int.le_refl _) (by omega) :
    (∀ (rest done : List Ex) (j m : Int), l = done ++ rest → j = done.length → sizesF l (d + 1) 1 = sizesF rest (d + 1) m → j + 1 ≤ m → m ≤ 999 + 1000 * (102 - ((d + 1 : Nat) : Int)) →
    WR2 _ _ _ _ _ (rest.length + 1) [(1, int .i64 d), (2, .one (.ptr 0 0)), (5, int .i64 m), (6, int .i64 j)] [.var [.d (.sc (.int .i64 k)), .d (.sc (.string o)), .d (.sc (.string nm)), .d (.sc (.int .u64 u)), .d (.list (l.map Ex.row))]]) → _) ?_
  intro rest
  induction rest with
  | nil =>
    intro done j m hl hj hr hm hm2
    have hlen : l.length = done.length := by rw [hl]; simp
    refine wR (gI ?_)
    refine ST wz ?_ <;> (repeat' (first | exact Wl.mk | refine wy1 ?_ ?_)) <;> repeat (intro hb; have hx := wy5 hb; clear hx)
    exact ⟨by rw [hr, sizesF]; rfl, rfl⟩
  | cons x rest ih =>
    intro done j m hl hj hr hm hm2
    have hlen : l.length = done.length + (rest.length + 1) := by rw [hl]; simp
    have hxm : x ∈ l := by rw [hl]; simp
    have hsz := Ex.size_mem hxm
    have hc := IH x (d + 1) (by rw [Ex.size] at hn; omega) (by omega)
    have hle := sizeF_le x (d + 1) (by omega)
    rw [sizesF] at hr
    have e1 : ((d + 1 : Nat) : Int) = IntKind.wrap .i64 ((d : Int) + 1) := by rw [wrap_ok (by omega) (by omega)]; rfl
    obtain ⟨xk, xo, xn, xu, xl⟩ := x
    refine wR (gI ?_)
    rw [e1] at hc
    refine ST (wc hc wz) ?_ <;> (repeat' (first | exact Wl.mk | refine wy1 ?_ ?_)) <;> repeat (intro hb; have hx := wy5 hb; clear hx)
    · have hb2 : m < 1000 := by simpa using hb
      rw [if_pos hb2] at hr
      refine rE (ih (done ++ [Ex.mk xk xo xn xu xl]) _ _ (by rw [hl]; simp) ?_ ?_ ?_ ?_)
      · rw [wrap_ok (by omega) (by omega)]; simp [hj]
      · rw [hr, wrap_ok (by omega) (by omega)]
      · rw [wrap_ok (by omega) (by omega), wrap_ok (by omega) (by omega)]; omega
      · rw [wrap_ok (by omega) (by omega)]; omega
    · have hb2 : ¬ m < 1000 := by simpa using hb
      rw [if_neg hb2] at hr
      exact ⟨by rw [hr]; rfl, rfl⟩
/-- is an expression small enough? -/
def few (e : Ex) : Bool := decide (sizeF e 0 ≤ 300)
theorem fewR (e : Ex) : Comp Tryz.prog 23 [.agg (e.row.map .d)] (bool (few e)) := by
  have hc := sizeR _ e 0 (Nat.lt_succ_self _) (by omega)
  have hn : ((0 : Nat) : Int) = 0 := rfl
  rw [hn] at hc
  unfold few
  obtain ⟨k, o, nm, u, l⟩ := e
  refine Spec.body (C := cx [] 6) fits (fn := Tryz.f23) Tryz.func23 rfl (by decide) (by decide) (gI ?_)
  refine ST (wc hc wz) ?_ <;> (repeat' (first | exact Wl.mk | refine wy1 ?_ ?_)) <;> repeat (intro hb; have hx := wy5 hb; clear hx)
  · exact ⟨by rw [hb]; rfl, rfl⟩
  · exact ⟨by rw [hb]; rfl, rfl⟩
end Go.Proofs.YtjjhckmnnaafkaaGreatDoor
