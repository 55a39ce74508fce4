/- A part of a proof: functions of the program walked over the abstract machine, and what they compute. -/
import Derived.Test.YtjjhckmnnaafkaaGreatDoorPWAq
import Derived.Test.YtjjhckmnnaafkaaGreatDoorPWAw
import Derived.Test.YtjjhckmnnaafkaaGreatDoorPWAt
set_option linter.unusedVariables false
set_option linter.unusedSimpArgs false
namespace Go.Proofs.YtjjhckmnnaafkaaGreatDoor
open Go Go.Am Go.Proofs
attribute [local irreducible] W WL DL WO RoundEnd
set_option maxRecDepth 10000
set_option maxHeartbeats 4000000
theorem boolF_out (n : Nat) (kd : Int) (o nm : ByteArray) (u : Int) (l : List Ex) (h1 : kd ≠ 1) (h2 : kd ≠ 2) (h3 : kd ≠ 3) (h4 : kd ≠ 4) : boolF (n + 1) (.mk kd o nm u l) = false := by
  rw [boolF]
  have hin := whatF_in (.mk kd o nm u l)
  cases hw : whatF (.mk kd o nm u l) with
  | none => rfl
  | num => rfl
  | nam => rfl
  | msk x => rfl
  | sg x => rw [hw] at hin; exact absurd hin.1 h3
  | pr x y => simp [Ex.kind, h1, h2, h4]
theorem compared5 (o n : ByteArray) (u : Int) (l : List Ex) : comparedF (.mk 5 o n u l) = oneF (.mk 5 o n u l) := by
  have hin := whatF_in (.mk 5 o n u l)
  unfold comparedF oneF
  cases hw : whatF (.mk 5 o n u l) with
  | none => rfl
  | num => rw [hw] at hin; simp [Ex.kind] at hin
  | nam => rfl
  | msk x => rw [hw] at hin; simp [Ex.kind] at hin
  | sg x => rfl
  | pr x y => rfl
theorem compared_out (kd : Int) (o n : ByteArray) (u : Int) (l : List Ex) (h5 : kd ≠ 5) (h6 : kd ≠ 6) : comparedF (.mk kd o n u l) = false := by
  have hin := whatF_in (.mk kd o n u l)
  unfold comparedF
  cases hw : whatF (.mk kd o n u l) with
  | none => rfl
  | num => rfl
  | nam => rw [hw] at hin; exact absurd hin h5
  | msk x => rw [hw] at hin; exact absurd hin.1 h6
  | sg x => rfl
  | pr x y => rfl
theorem boolD : ∀ (n : Nat) (e : Ex), e.size < n → e.nok → Comp Tryz.prog 80 [.agg (e.row.map .d)] (bool (boolF n e)) := by
  intro n
  induction n with
  | zero => intro e h; omega
  | succ n IH =>
  intro e hs hn
  generalize hfb : boolF (n + 1) e = fb
  rw [boolF] at hfb
  obtain ⟨kd, o, nm, u, l⟩ := e
  have c6 := opD o
  have hop := opF_any o
  by_cases hg : (nm == (⟨#[]⟩ : ByteArray)) = true ∧ (u == 0) = true
  rotate_left
  · have hf : fb = false := by
      rw [← hfb]
      rcases l with _ | ⟨x, _ | ⟨y, _ | ⟨z, l⟩⟩⟩
      · simp only [whatF]
        split
        · rename_i h; split at h <;> (try split at h) <;> simp at h
        · rename_i h; split at h <;> (try split at h) <;> simp at h
        · rfl
      · simp only [whatF]
        split
        · rename_i h; split at h <;> (try split at h) <;> simp_all
        · rename_i h; split at h <;> (try split at h) <;> simp_all
        · rfl
      · simp only [whatF]
        split
        · rename_i h; split at h <;> (try split at h) <;> simp_all
        · rename_i h; split at h <;> (try split at h) <;> simp_all
        · rfl
      · simp [whatF]
    have el : Ex.rows l = l.map Ex.row := Ex.rows_eq l
    simp only [Ex.row, el, List.map_cons, List.map_nil]
    by_cases h1 : (nm == (⟨#[]⟩ : ByteArray)) = true
    · have b1 : (!(nm == (⟨#[]⟩ : ByteArray))) = false := by rw [h1]; rfl
      have b2 : (!(u == 0)) = true := by
        cases hu : (u == 0) with
        | true => exact absurd ⟨h1, hu⟩ hg
        | false => rfl
      refine Spec.body (C := cx [] 118) fits (fn := Tryz.f80) Tryz.func80 rfl (by decide) (by decide) (gI ?_)
      refine ST wz ?_ <;> (repeat' (first | exact Wl.mk | refine wy1 ?_ ?_)) <;> repeat (intro hb; have hx := wy5 hb; clear hx)
      all_goals exact ⟨by rw [hf]; rfl, rfl⟩
    · have b1 : (!(nm == (⟨#[]⟩ : ByteArray))) = true := by simpa using h1
      refine Spec.body (C := cx [] 118) fits (fn := Tryz.f80) Tryz.func80 rfl (by decide) (by decide) (gI ?_)
      refine ST wz ?_ <;> (repeat' (first | exact Wl.mk | refine wy1 ?_ ?_)) <;> repeat (intro hb; have hx := wy5 hb; clear hx)
      all_goals exact ⟨by rw [hf]; rfl, rfl⟩
  obtain ⟨hnm, hu⟩ := hg
  have b1 : (!(nm == (⟨#[]⟩ : ByteArray))) = false := by rw [hnm]; rfl
  have b2 : (!(u == 0)) = false := by rw [hu]; rfl
  by_cases hk1 : kd = 1
  · subst hk1
    rcases l with _ | ⟨x, _ | ⟨y, _ | ⟨z, l⟩⟩⟩
    · have hf : fb = false := by rw [← hfb]; rfl
      refine Spec.body (C := cx [] 118) fits (fn := Tryz.f80) Tryz.func80 rfl (by decide) (by decide) (gI ?_)
      refine ST wz ?_ <;> (repeat' (first | exact Wl.mk | refine wy1 ?_ ?_)) <;> repeat (intro hb; have hx := wy5 hb; clear hx)
      all_goals first | exact ⟨by rw [hf]; rfl, rfl⟩ | (exfalso; simp [Ex.rows] at hb)
    · have hf : fb = false := by rw [← hfb]; rfl
      refine Spec.body (C := cx [] 118) fits (fn := Tryz.f80) Tryz.func80 rfl (by decide) (by decide) (gI ?_)
      refine ST wz ?_ <;> (repeat' (first | exact Wl.mk | refine wy1 ?_ ?_)) <;> repeat (intro hb; have hx := wy5 hb; clear hx)
      all_goals first | exact ⟨by rw [hf]; rfl, rfl⟩ | (exfalso; simp [Ex.rows] at hb)
    · have d1 := IH x (by simp only [Ex.size, Ex.sizes] at hs; omega) hn.2.1
      have d2 := IH y (by simp only [Ex.size, Ex.sizes] at hs; omega) hn.2.2.1
      have hw : whatF (.mk 1 o nm u [x, y]) = (if (o == (⟨#[]⟩ : ByteArray)) = true then .pr x y else .none) := by
        simp only [whatF, twoF, hnm, hu]; simp
      rw [hw] at hfb
      obtain ⟨k1, o1, n1, u1, l1⟩ := x
      obtain ⟨k2, o2, n2, u2, l2⟩ := y
      refine Spec.body (C := cx [] 118) fits (fn := Tryz.f80) Tryz.func80 rfl (by decide) (by decide) (gI ?_)
      repeat' (first | ((first | refine C_r ?_ | refine C0_r ?_ | refine O_r ?_ | refine R_r ?_); (conv => whnf); first | (refine ⟨fun hb => ?_, fun hb => ?_⟩ <;> try exact no_way) | refine A_o ?_ | refine B_o ?_ | refine C_o ?_ | refine R_o ?_ | refine fR ?_ | refine fRk ?_ | refine F_o ?_) | refine B_l (d1) (fun g1 => ?_) fun g1 => ?_ | refine B_l (d2) (fun g2 => ?_) fun g2 => ?_ | refine SA_l ?_ | refine V_l ?_ | refine L_l ?_ | refine Q_l ?_ | refine X_l ?_ | refine Xa_l ?_ | refine Xs_l ?_ | refine K_l ?_ | refine Ka_l ?_ | refine Lk_l ?_ | refine Up_l ?_ | refine Del_l ?_ | refine St_l ?_ | refine LU_l ?_ | refine Xw_l ?_ | refine Le_l ?_ | refine Se_l ?_ | refine M_l ?_ | refine A_l ?_ | refine A0_l ?_ | refine A1_l ?_ | refine Mk_l ?_ | refine Kz_l ?_ | refine W_l ?_ | fail)
      · rw [if_pos (by assumption)] at hfb
        exact ⟨by rw [← hfb]; simp [Ex.kind, g1, g2]; rfl, rfl⟩
      · rw [if_pos (by assumption)] at hfb
        exact ⟨by rw [← hfb]; simp [Ex.kind, g1, g2]; rfl, rfl⟩
      · rw [if_pos (by assumption)] at hfb
        exact ⟨by rw [← hfb]; simp [Ex.kind, g1]; rfl, rfl⟩
      all_goals (rw [if_neg (by simp [hb])] at hfb; exact ⟨by rw [← hfb]; rfl, rfl⟩)
    · have hf : fb = false := by rw [← hfb]; rfl
      have el : Ex.rows (x :: y :: z :: l) = (x :: y :: z :: l).map Ex.row := Ex.rows_eq _
      simp only [Ex.row, el, List.map_cons, List.map_nil]
      refine Spec.body (C := cx [] 118) fits (fn := Tryz.f80) Tryz.func80 rfl (by decide) (by decide) (gI ?_)
      refine ST wz ?_ <;> (repeat' (first | exact Wl.mk | refine wy1 ?_ ?_)) <;> repeat (intro hb; have hx := wy5 hb; clear hx)
      all_goals first | exact ⟨by rw [hf]; rfl, rfl⟩ | (exfalso; simp [Ex.rows] at hb)
  by_cases hk2 : kd = 2
  · subst hk2
    rcases l with _ | ⟨x, _ | ⟨y, _ | ⟨z, l⟩⟩⟩
    · have hf : fb = false := by rw [← hfb]; rfl
      refine Spec.body (C := cx [] 118) fits (fn := Tryz.f80) Tryz.func80 rfl (by decide) (by decide) (gI ?_)
      refine ST wz ?_ <;> (repeat' (first | exact Wl.mk | refine wy1 ?_ ?_)) <;> repeat (intro hb; have hx := wy5 hb; clear hx)
      all_goals first | exact ⟨by rw [hf]; rfl, rfl⟩ | (exfalso; simp [Ex.rows] at hb)
    · have hf : fb = false := by rw [← hfb]; rfl
      refine Spec.body (C := cx [] 118) fits (fn := Tryz.f80) Tryz.func80 rfl (by decide) (by decide) (gI ?_)
      refine ST wz ?_ <;> (repeat' (first | exact Wl.mk | refine wy1 ?_ ?_)) <;> repeat (intro hb; have hx := wy5 hb; clear hx)
      all_goals first | exact ⟨by rw [hf]; rfl, rfl⟩ | (exfalso; simp [Ex.rows] at hb)
    · have d1 := IH x (by simp only [Ex.size, Ex.sizes] at hs; omega) hn.2.1
      have d2 := IH y (by simp only [Ex.size, Ex.sizes] at hs; omega) hn.2.2.1
      have hw : whatF (.mk 2 o nm u [x, y]) = (if (o == (⟨#[]⟩ : ByteArray)) = true then .pr x y else .none) := by
        simp only [whatF, twoF, hnm, hu]; simp
      rw [hw] at hfb
      obtain ⟨k1, o1, n1, u1, l1⟩ := x
      obtain ⟨k2, o2, n2, u2, l2⟩ := y
      refine Spec.body (C := cx [] 118) fits (fn := Tryz.f80) Tryz.func80 rfl (by decide) (by decide) (gI ?_)
      repeat' (first | ((first | refine C_r ?_ | refine C0_r ?_ | refine O_r ?_ | refine R_r ?_); (conv => whnf); first | (refine ⟨fun hb => ?_, fun hb => ?_⟩ <;> try exact no_way) | refine A_o ?_ | refine B_o ?_ | refine C_o ?_ | refine R_o ?_ | refine fR ?_ | refine fRk ?_ | refine F_o ?_) | refine B_l (d1) (fun g1 => ?_) fun g1 => ?_ | refine B_l (d2) (fun g2 => ?_) fun g2 => ?_ | refine SA_l ?_ | refine V_l ?_ | refine L_l ?_ | refine Q_l ?_ | refine X_l ?_ | refine Xa_l ?_ | refine Xs_l ?_ | refine K_l ?_ | refine Ka_l ?_ | refine Lk_l ?_ | refine Up_l ?_ | refine Del_l ?_ | refine St_l ?_ | refine LU_l ?_ | refine Xw_l ?_ | refine Le_l ?_ | refine Se_l ?_ | refine M_l ?_ | refine A_l ?_ | refine A0_l ?_ | refine A1_l ?_ | refine Mk_l ?_ | refine Kz_l ?_ | refine W_l ?_ | fail)
      · rw [if_pos (by assumption)] at hfb
        exact ⟨by rw [← hfb]; simp [Ex.kind, g1, g2]; rfl, rfl⟩
      · rw [if_pos (by assumption)] at hfb
        exact ⟨by rw [← hfb]; simp [Ex.kind, g1, g2]; rfl, rfl⟩
      · rw [if_pos (by assumption)] at hfb
        exact ⟨by rw [← hfb]; simp [Ex.kind, g1]; rfl, rfl⟩
      all_goals (rw [if_neg (by simp [hb])] at hfb; exact ⟨by rw [← hfb]; rfl, rfl⟩)
    · have hf : fb = false := by rw [← hfb]; rfl
      have el : Ex.rows (x :: y :: z :: l) = (x :: y :: z :: l).map Ex.row := Ex.rows_eq _
      simp only [Ex.row, el, List.map_cons, List.map_nil]
      refine Spec.body (C := cx [] 118) fits (fn := Tryz.f80) Tryz.func80 rfl (by decide) (by decide) (gI ?_)
      refine ST wz ?_ <;> (repeat' (first | exact Wl.mk | refine wy1 ?_ ?_)) <;> repeat (intro hb; have hx := wy5 hb; clear hx)
      all_goals first | exact ⟨by rw [hf]; rfl, rfl⟩ | (exfalso; simp [Ex.rows] at hb)
  by_cases hk3 : kd = 3
  · subst hk3
    rcases l with _ | ⟨x, _ | ⟨y, l⟩⟩
    · have hf : fb = false := by rw [← hfb]; rfl
      refine Spec.body (C := cx [] 118) fits (fn := Tryz.f80) Tryz.func80 rfl (by decide) (by decide) (gI ?_)
      refine ST wz ?_ <;> (repeat' (first | exact Wl.mk | refine wy1 ?_ ?_)) <;> repeat (intro hb; have hx := wy5 hb; clear hx)
      all_goals first | exact ⟨by rw [hf]; rfl, rfl⟩ | (exfalso; simp [Ex.rows] at hb)
    · have d1 := IH x (by simp only [Ex.size, Ex.sizes] at hs; omega) hn.2.1
      have hw : whatF (.mk 3 o nm u [x]) = (if (o == (⟨#[]⟩ : ByteArray)) = true then .sg x else .none) := by
        simp only [whatF, hnm, hu]; simp
      rw [hw] at hfb
      obtain ⟨k1, o1, n1, u1, l1⟩ := x
      refine Spec.body (C := cx [] 118) fits (fn := Tryz.f80) Tryz.func80 rfl (by decide) (by decide) (gI ?_)
      repeat' (first | ((first | refine C_r ?_ | refine C0_r ?_ | refine O_r ?_ | refine R_r ?_); (conv => whnf); first | (refine ⟨fun hb => ?_, fun hb => ?_⟩ <;> try exact no_way) | refine A_o ?_ | refine B_o ?_ | refine C_o ?_ | refine R_o ?_ | refine fR ?_ | refine fRk ?_ | refine F_o ?_) | refine B_l (d1) (fun g1 => ?_) fun g1 => ?_ | refine SA_l ?_ | refine V_l ?_ | refine L_l ?_ | refine Q_l ?_ | refine X_l ?_ | refine Xa_l ?_ | refine Xs_l ?_ | refine K_l ?_ | refine Ka_l ?_ | refine Lk_l ?_ | refine Up_l ?_ | refine Del_l ?_ | refine St_l ?_ | refine LU_l ?_ | refine Xw_l ?_ | refine Le_l ?_ | refine Se_l ?_ | refine M_l ?_ | refine A_l ?_ | refine A0_l ?_ | refine A1_l ?_ | refine Mk_l ?_ | refine Kz_l ?_ | refine W_l ?_ | fail)
      · rw [if_pos (by assumption)] at hfb
        exact ⟨by rw [← hfb]; simp only [g1]; rfl, rfl⟩
      · rw [if_pos (by assumption)] at hfb
        exact ⟨by rw [← hfb]; simp only [g1]; rfl, rfl⟩
      all_goals (rw [if_neg (by simp [hb])] at hfb; exact ⟨by rw [← hfb]; rfl, rfl⟩)
    · have hf : fb = false := by
        rw [← hfb]
        rcases l with _ | ⟨z, l⟩ <;> simp [whatF, twoF]
      have el : Ex.rows (x :: y :: l) = (x :: y :: l).map Ex.row := Ex.rows_eq _
      simp only [Ex.row, el, List.map_cons, List.map_nil]
      refine Spec.body (C := cx [] 118) fits (fn := Tryz.f80) Tryz.func80 rfl (by decide) (by decide) (gI ?_)
      refine ST wz ?_ <;> (repeat' (first | exact Wl.mk | refine wy1 ?_ ?_)) <;> repeat (intro hb; have hx := wy5 hb; clear hx)
      all_goals first | exact ⟨by rw [hf]; rfl, rfl⟩ | (exfalso; simp [Ex.rows] at hb)
  by_cases hk4 : kd = 4
  · subst hk4
    rcases l with _ | ⟨x, _ | ⟨y, _ | ⟨z, l⟩⟩⟩
    · have hf : fb = false := by rw [← hfb]; rfl
      refine Spec.body (C := cx [] 118) fits (fn := Tryz.f80) Tryz.func80 rfl (by decide) (by decide) (gI ?_)
      refine ST (wc c6 wz) ?_ <;> (repeat' (first | exact Wl.mk | refine wy1 ?_ ?_)) <;> repeat (intro hb; have hx := wy5 hb; clear hx)
      all_goals first | exact ⟨by rw [hf]; rfl, rfl⟩ | (exfalso; simp [Ex.rows] at hb)
    · have hf : fb = false := by rw [← hfb]; rfl
      refine Spec.body (C := cx [] 118) fits (fn := Tryz.f80) Tryz.func80 rfl (by decide) (by decide) (gI ?_)
      refine ST (wc c6 wz) ?_ <;> (repeat' (first | exact Wl.mk | refine wy1 ?_ ?_)) <;> repeat (intro hb; have hx := wy5 hb; clear hx)
      all_goals first | exact ⟨by rw [hf]; rfl, rfl⟩ | (exfalso; simp [Ex.rows] at hb)
    · have d1 := numberD n y (by simp only [Ex.size, Ex.sizes] at hs; omega) hn.2.2.1
      have hw : whatF (.mk 4 o nm u [x, y]) = .pr x y := by
        simp only [whatF, hnm, hu]; simp
      rw [hw] at hfb
      have hfb4 : fb = (cmpOps.any (o == ·) && (comparedF x && numF n y)) := by rw [← hfb]; simp [Ex.kind, Ex.op]
      have hxn := hn.2.1
      have d2 := primD x (by obtain ⟨_, _, xm, _, _⟩ := x; exact hxn.1)
      cases ha : cmpOps.any (o == ·) with
      | false =>
        rw [ha] at hop hfb4
        have hop2 : (opF o == 0) = true := hop
        obtain ⟨k1, o1, n1, u1, l1⟩ := x
        obtain ⟨k2, o2, n2, u2, l2⟩ := y
        refine Spec.body (C := cx [] 118) fits (fn := Tryz.f80) Tryz.func80 rfl (by decide) (by decide) (gI ?_)
        refine ST (wc c6 wz) ?_ <;> (repeat' (first | exact Wl.mk | refine wy1 ?_ ?_)) <;> repeat (intro hb; have hx := wy5 hb; clear hx)
        all_goals first | exact ⟨by rw [hfb4]; rfl, rfl⟩ | (exfalso; simp [Ex.rows] at hb)
      | true =>
        rw [ha, Bool.true_and] at hfb4
        rw [ha] at hop
        have hop2 : (opF o == 0) = false := hop
        obtain ⟨k1, o1, n1, u1, l1⟩ := x
        obtain ⟨k2, o2, n2, u2, l2⟩ := y
        by_cases h5 : k1 = 5
        · subst h5
          rw [compared5] at hfb4
          refine Spec.body (C := cx [] 118) fits (fn := Tryz.f80) Tryz.func80 rfl (by decide) (by decide) (gI ?_)
          repeat' (first | ((first | refine C_r ?_ | refine C0_r ?_ | refine O_r ?_ | refine R_r ?_); (conv => whnf); first | (refine ⟨fun hb => ?_, fun hb => ?_⟩ <;> try exact no_way) | refine A_o ?_ | refine B_o ?_ | refine C_o ?_ | refine R_o ?_ | refine fR ?_ | refine fRk ?_ | refine F_o ?_) | refine C_l (c6) ?_ | refine B_l (d1) (fun g1 => ?_) fun g1 => ?_ | refine B_l (d2) (fun g2 => ?_) fun g2 => ?_ | refine SA_l ?_ | refine V_l ?_ | refine L_l ?_ | refine Q_l ?_ | refine X_l ?_ | refine Xa_l ?_ | refine Xs_l ?_ | refine K_l ?_ | refine Ka_l ?_ | refine Lk_l ?_ | refine Up_l ?_ | refine Del_l ?_ | refine St_l ?_ | refine LU_l ?_ | refine Xw_l ?_ | refine Le_l ?_ | refine Se_l ?_ | refine M_l ?_ | refine A_l ?_ | refine A0_l ?_ | refine A1_l ?_ | refine Mk_l ?_ | refine Kz_l ?_ | refine W_l ?_ | fail)
          all_goals first | exact ⟨by rw [hfb4, g1, g2]; rfl, rfl⟩ | exact ⟨by rw [hfb4, g1, Bool.and_false]; rfl, rfl⟩ | (exfalso; simp [Ex.rows] at hb)
        by_cases h6 : k1 = 6
        · subst h6
          have d3 := nameD n1 hxn.1
          rcases l1 with _ | ⟨w, _ | ⟨w2, l1⟩⟩
          · have hc : comparedF (.mk 6 o1 n1 u1 []) = false := by simp [comparedF, whatF]
            rw [hc] at hfb4
            refine Spec.body (C := cx [] 118) fits (fn := Tryz.f80) Tryz.func80 rfl (by decide) (by decide) (gI ?_)
            repeat' (first | ((first | refine C_r ?_ | refine C0_r ?_ | refine O_r ?_ | refine R_r ?_); (conv => whnf); first | (refine ⟨fun hb => ?_, fun hb => ?_⟩ <;> try exact no_way) | refine A_o ?_ | refine B_o ?_ | refine C_o ?_ | refine R_o ?_ | refine fR ?_ | refine fRk ?_ | refine F_o ?_) | refine C_l (c6) ?_ | refine B_l (d1) (fun g1 => ?_) fun g1 => ?_ | refine B_l (d3) (fun g3 => ?_) fun g3 => ?_ | refine SA_l ?_ | refine V_l ?_ | refine L_l ?_ | refine Q_l ?_ | refine X_l ?_ | refine Xa_l ?_ | refine Xs_l ?_ | refine K_l ?_ | refine Ka_l ?_ | refine Lk_l ?_ | refine Up_l ?_ | refine Del_l ?_ | refine St_l ?_ | refine LU_l ?_ | refine Xw_l ?_ | refine Le_l ?_ | refine Se_l ?_ | refine M_l ?_ | refine A_l ?_ | refine A0_l ?_ | refine A1_l ?_ | refine Mk_l ?_ | refine Kz_l ?_ | refine W_l ?_ | fail)
            all_goals first | exact ⟨by rw [hfb4]; rfl, rfl⟩ | (exfalso; simp [Ex.rows] at hb)
          · have d4 := primD w (by obtain ⟨_, _, wm, _, _⟩ := w; exact hxn.2.1.1)
            have hc : comparedF (.mk 6 o1 n1 u1 [w]) = ((o1 == (⟨#[]⟩ : ByteArray) && u1 == 0) && (nameF n1 && oneF w)) := by
              simp only [comparedF, whatF]
              cases ho1 : (o1 == (⟨#[]⟩ : ByteArray)) with
              | false => simp
              | true =>
                cases hu1 : (u1 == 0) with
                | false => simp
                | true => simp [Ex.name]
            rw [hc] at hfb4
            obtain ⟨k3, o3, n3, u3, l3⟩ := w
            refine Spec.body (C := cx [] 118) fits (fn := Tryz.f80) Tryz.func80 rfl (by decide) (by decide) (gI ?_)
            repeat' (first | ((first | refine C_r ?_ | refine C0_r ?_ | refine O_r ?_ | refine R_r ?_); (conv => whnf); first | (refine ⟨fun hb => ?_, fun hb => ?_⟩ <;> try exact no_way) | refine A_o ?_ | refine B_o ?_ | refine C_o ?_ | refine R_o ?_ | refine fR ?_ | refine fRk ?_ | refine F_o ?_) | refine C_l (c6) ?_ | refine B_l (d1) (fun g1 => ?_) fun g1 => ?_ | refine B_l (d3) (fun g3 => ?_) fun g3 => ?_ | refine B_l (d4) (fun g4 => ?_) fun g4 => ?_ | refine SA_l ?_ | refine V_l ?_ | refine L_l ?_ | refine Q_l ?_ | refine X_l ?_ | refine Xa_l ?_ | refine Xs_l ?_ | refine K_l ?_ | refine Ka_l ?_ | refine Lk_l ?_ | refine Up_l ?_ | refine Del_l ?_ | refine St_l ?_ | refine LU_l ?_ | refine Xw_l ?_ | refine Le_l ?_ | refine Se_l ?_ | refine M_l ?_ | refine A_l ?_ | refine A0_l ?_ | refine A1_l ?_ | refine Mk_l ?_ | refine Kz_l ?_ | refine W_l ?_ | fail)
            all_goals first
              | exact ⟨by rw [hfb4, g1, Bool.and_false]; rfl, rfl⟩
              | (have a : (o1 == (⟨#[]⟩ : ByteArray)) = false := (by assumption); exact ⟨by rw [hfb4, a]; rfl, rfl⟩)
              | exact ⟨by rw [hfb4, g3, Bool.false_and, Bool.and_false]; rfl, rfl⟩
              | (have b : (u1 == 0) = false := (by assumption); exact ⟨by rw [hfb4, b, Bool.and_false]; rfl, rfl⟩)
              | (have a : (o1 == (⟨#[]⟩ : ByteArray)) = true := (by assumption); have b : (u1 == 0) = true := (by assumption); exact ⟨by rw [hfb4, a, b, g3, g4, g1]; rfl, rfl⟩)
          · have hc : comparedF (.mk 6 o1 n1 u1 (w :: w2 :: l1)) = false := by
              rcases l1 with _ | ⟨w3, l1⟩ <;> simp [comparedF, whatF, twoF]
            rw [hc] at hfb4
            have el1 : Ex.rows (w :: w2 :: l1) = (w :: w2 :: l1).map Ex.row := Ex.rows_eq _
            simp only [Ex.row, Ex.rows, el1, List.map_cons, List.map_nil]
            refine Spec.body (C := cx [] 118) fits (fn := Tryz.f80) Tryz.func80 rfl (by decide) (by decide) (gI ?_)
            repeat' (first | ((first | refine C_r ?_ | refine C0_r ?_ | refine O_r ?_ | refine R_r ?_); (conv => whnf); first | (refine ⟨fun hb => ?_, fun hb => ?_⟩ <;> try exact no_way) | refine A_o ?_ | refine B_o ?_ | refine C_o ?_ | refine R_o ?_ | refine fR ?_ | refine fRk ?_ | refine F_o ?_) | refine C_l (c6) ?_ | refine B_l (d1) (fun g1 => ?_) fun g1 => ?_ | refine B_l (d3) (fun g3 => ?_) fun g3 => ?_ | refine SA_l ?_ | refine V_l ?_ | refine L_l ?_ | refine Q_l ?_ | refine X_l ?_ | refine Xa_l ?_ | refine Xs_l ?_ | refine K_l ?_ | refine Ka_l ?_ | refine Lk_l ?_ | refine Up_l ?_ | refine Del_l ?_ | refine St_l ?_ | refine LU_l ?_ | refine Xw_l ?_ | refine Le_l ?_ | refine Se_l ?_ | refine M_l ?_ | refine A_l ?_ | refine A0_l ?_ | refine A1_l ?_ | refine Mk_l ?_ | refine Kz_l ?_ | refine W_l ?_ | fail)
            all_goals first | exact ⟨by rw [hfb4]; rfl, rfl⟩ | trace_state
        · have hc : comparedF (.mk k1 o1 n1 u1 l1) = false := compared_out k1 o1 n1 u1 l1 h5 h6
          rw [hc] at hfb4
          have q5 : (k1 == 5) = false := by simp [h5]
          have q6 : (k1 == 6) = false := by simp [h6]
          refine Spec.body (C := cx [] 118) fits (fn := Tryz.f80) Tryz.func80 rfl (by decide) (by decide) (gI ?_)
          repeat' (first | ((first | refine C_r ?_ | refine C0_r ?_ | refine O_r ?_ | refine R_r ?_); (conv => whnf); first | (refine ⟨fun hb => ?_, fun hb => ?_⟩ <;> try exact no_way) | refine A_o ?_ | refine B_o ?_ | refine C_o ?_ | refine R_o ?_ | refine fR ?_ | refine fRk ?_ | refine F_o ?_) | refine C_l (c6) ?_ | refine B_l (d1) (fun g1 => ?_) fun g1 => ?_ | refine SA_l ?_ | refine V_l ?_ | refine L_l ?_ | refine Q_l ?_ | refine X_l ?_ | refine Xa_l ?_ | refine Xs_l ?_ | refine K_l ?_ | refine Ka_l ?_ | refine Lk_l ?_ | refine Up_l ?_ | refine Del_l ?_ | refine St_l ?_ | refine LU_l ?_ | refine Xw_l ?_ | refine Le_l ?_ | refine Se_l ?_ | refine M_l ?_ | refine A_l ?_ | refine A0_l ?_ | refine A1_l ?_ | refine Mk_l ?_ | refine Kz_l ?_ | refine W_l ?_ | fail)
          all_goals first | exact ⟨by rw [hfb4]; rfl, rfl⟩ | (exfalso; simp [Ex.rows] at hb)
    · have hf : fb = false := by rw [← hfb]; rfl
      have el : Ex.rows (x :: y :: z :: l) = (x :: y :: z :: l).map Ex.row := Ex.rows_eq _
      simp only [Ex.row, el, List.map_cons, List.map_nil]
      refine Spec.body (C := cx [] 118) fits (fn := Tryz.f80) Tryz.func80 rfl (by decide) (by decide) (gI ?_)
      refine ST (wc c6 wz) ?_ <;> (repeat' (first | exact Wl.mk | refine wy1 ?_ ?_)) <;> repeat (intro hb; have hx := wy5 hb; clear hx)
      all_goals first | exact ⟨by rw [hf]; rfl, rfl⟩ | trace_state
  have q1 : (kd == 1) = false := by simp [hk1]
  have q2 : (kd == 2) = false := by simp [hk2]
  have q3 : (kd == 3) = false := by simp [hk3]
  have q4 : (kd == 4) = false := by simp [hk4]
  have hf : fb = false := by
    have := boolF_out n kd o nm u l hk1 hk2 hk3 hk4
    rw [boolF] at this
    rw [← hfb]; exact this
  refine Spec.body (C := cx [] 118) fits (fn := Tryz.f80) Tryz.func80 rfl (by decide) (by decide) (gI ?_)
  refine ST wz ?_ <;> (repeat' (first | exact Wl.mk | refine wy1 ?_ ?_)) <;> repeat (intro hb; have hx := wy5 hb; clear hx)
  all_goals exact ⟨by rw [hf]; rfl, rfl⟩
end Go.Proofs.YtjjhckmnnaafkaaGreatDoor
namespace Go.Proofs.YtjjhckmnnaafkaaGreatDoor
open Go Go.Am Go.Proofs
attribute [local irreducible] W WL DL WO RoundEnd
set_option maxRecDepth 10000
set_option maxHeartbeats 4000000
theorem valueD (a : Act) : Comp Tryz.prog 45 [.agg (a.row.map .d)] (.tup [.one (.d (.sc (.int .u32 (valF a).1))), .one (.d (.sc (.bool (valF a).2)))]) := by
  obtain ⟨kd, d⟩ := a
  generalize hfb : valF ⟨kd, d⟩ = fb
  simp only [valF] at hfb
  by_cases h3 : kd = 3 ∨ kd = 4 ∨ kd = 5
  · have ht : topF kd = 65535 := if_pos h3
    rw [ht] at hfb
    rcases h3 with rfl | rfl | rfl
    all_goals
      refine Spec.body (C := cx [] 47) fits (fn := Tryz.f45) Tryz.func45 rfl (by decide) (by decide) (gI ?_)
      refine ST wz ?_ <;> (repeat' (first | exact Wl.mk | refine wy1 ?_ ?_)) <;> repeat (intro hb; have hx := wy5 hb; clear hx)
      all_goals first
        | (rw [if_pos (by first | (right; left; simpa using hb) | (right; right; simpa using hb) | (left; rfl))] at hfb; subst hfb; exact ⟨rfl, rfl⟩)
        | (rw [if_neg (by
            have a : decide (d < 0) = false := by assumption
            have a2 : decide (d > 65535) = false := by assumption
            simp at a a2
            simp [plainF]
            omega)] at hfb; subst hfb; exact ⟨rfl, rfl⟩)
        | trace_state
  have ht : topF kd = 0 := if_neg h3
  rw [ht] at hfb
  by_cases h1 : kd = 1 ∨ kd = 2 ∨ kd = 6 ∨ kd = 7
  · rcases h1 with rfl | rfl | rfl | rfl
    all_goals
      refine Spec.body (C := cx [] 47) fits (fn := Tryz.f45) Tryz.func45 rfl (by decide) (by decide) (gI ?_)
      refine ST wz ?_ <;> (repeat' (first | exact Wl.mk | refine wy1 ?_ ?_)) <;> repeat (intro hb; have hx := wy5 hb; clear hx)
      all_goals first
        | (rw [if_pos (by simp at hb; simp [plainF]; omega)] at hfb; subst hfb; exact ⟨rfl, rfl⟩)
        | (rw [if_neg (by simp at hb; simp [plainF]; omega)] at hfb; subst hfb; exact ⟨rfl, rfl⟩)
        | trace_state
  have b1 : (kd == 1) = false := by simp; omega
  have b2 : (kd == 2) = false := by simp; omega
  have b3 : (kd == 3) = false := by simp; omega
  have b4 : (kd == 4) = false := by simp; omega
  have b5 : (kd == 5) = false := by simp; omega
  have b6 : (kd == 6) = false := by simp; omega
  have b7 : (kd == 7) = false := by simp; omega
  have e : (plainF kd).2 = false := by
    have q1 : kd ≠ 1 := by omega
    have q2 : kd ≠ 2 := by omega
    have q3 : kd ≠ 3 := by omega
    have q4 : kd ≠ 4 := by omega
    have q5 : kd ≠ 5 := by omega
    have q6 : kd ≠ 6 := by omega
    have q7 : kd ≠ 7 := by omega
    simp [plainF, q1, q2, q3, q4, q5, q6, q7]
  rw [if_pos (Or.inl e)] at hfb
  subst hfb
  refine Spec.body (C := cx [] 47) fits (fn := Tryz.f45) Tryz.func45 rfl (by decide) (by decide) (gI ?_)
  refine ST wz ?_ <;> (repeat' (first | exact Wl.mk | refine wy1 ?_ ?_)) <;> repeat (intro hb; have hx := wy5 hb; clear hx)
  exact ⟨rfl, rfl⟩
theorem namesD (l : List ByteArray) (hl : l.length < 2 ^ 60) (hs : ∀ s ∈ l, s.size < 2 ^ 60) : Comp Tryz.prog 46 [lst strow l] (bool (l.all nameF)) := by
  generalize hfb : l.all nameF = fb
  refine Spec.body (C := cx [] 16) fits (fn := Tryz.f46) Tryz.func46 rfl (by decide) (by decide) (gI ?_)
  refine ST wz ?_ <;> (repeat' (first | exact Wl.mk | refine wy1 ?_ ?_)) <;> repeat (intro hb; have hx := wy5 hb; clear hx)
  refine wLoop [0, 3] 0 (l.length + 1) ?_
  refine (fun key => key l [] _ rfl rfl hfb.symm :
    (∀ (rest done : List ByteArray) (j : Int), l = done ++ rest → j = done.length → fb = rest.all nameF →
    WR2 _ _ _ _ _ (rest.length + 1) [(0, lst strow l), (3, int .i64 j)] []) → _) ?_
  intro rest
  induction rest with
  | nil =>
    intro done j h1 hj hr
    have hlen : l.length = done.length := by rw [h1]; simp
    refine wR (gI ?_)
    refine ST wz ?_ <;> (repeat' (first | exact Wl.mk | refine wy1 ?_ ?_)) <;> repeat (intro hb; have hx := wy5 hb; clear hx)
    exact ⟨by rw [hr]; rfl, rfl⟩
  | cons x rest ih =>
    intro done j h1 hj hr
    have hlen : l.length = done.length + (rest.length + 1) := by rw [h1]; simp
    have c1 := nameD x (hs x (by rw [h1]; simp))
    rw [List.all_cons] at hr
    refine wR (gI ?_)
    repeat' (first | ((first | refine C_r ?_ | refine C0_r ?_ | refine O_r ?_ | refine R_r ?_); (conv => whnf); first | (refine ⟨fun hb => ?_, fun hb => ?_⟩ <;> try exact no_way) | refine A_o ?_ | refine B_o ?_ | refine C_o ?_ | refine R_o ?_ | refine fR ?_ | refine fRk ?_ | refine F_o ?_) | refine B_l (c1) (fun g1 => ?_) fun g1 => ?_ | refine SA_l ?_ | refine V_l ?_ | refine L_l ?_ | refine Q_l ?_ | refine X_l ?_ | refine Xa_l ?_ | refine Xs_l ?_ | refine K_l ?_ | refine Ka_l ?_ | refine Lk_l ?_ | refine Up_l ?_ | refine Del_l ?_ | refine St_l ?_ | refine LU_l ?_ | refine Xw_l ?_ | refine Le_l ?_ | refine Se_l ?_ | refine M_l ?_ | refine A_l ?_ | refine A0_l ?_ | refine A1_l ?_ | refine Mk_l ?_ | refine Kz_l ?_ | refine W_l ?_ | fail)
    · refine rE (ih (done ++ [x]) _ (by rw [h1]; simp) ?_ ?_)
      · rw [wrap_ok (by omega) (by omega)]; simp [hj]
      · rw [hr, g1, Bool.true_and]
    · exact ⟨by rw [hr, g1]; rfl, rfl⟩
theorem partD (p : Part) (h : p.good) : Comp Tryz.prog 44 [.agg (p.row.map .d)] (bool (partRF p)) := by
  have c1 := nameD p.use h.1
  have c3 := valueD p.act
  have hrg := h.2.2
  have hrl := h.2.1
  generalize hfb : partRF p = fb
  rw [partRF] at hfb
  obtain ⟨xu, ⟨xk, xd⟩, xr⟩ := p
  by_cases he : xu = ⟨#[]⟩
  rotate_left
  · have be : (!(xu == (⟨#[]⟩ : ByteArray))) = true := by simp [ba_beq, he]
    rw [if_neg he] at hfb
    refine Spec.body (C := cx [] 82) fits (fn := Tryz.f44) Tryz.func44 rfl (by decide) (by decide) (gI ?_)
    repeat' (first | ((first | refine C_r ?_ | refine C0_r ?_ | refine O_r ?_ | refine R_r ?_); (conv => whnf); first | (refine ⟨fun hb => ?_, fun hb => ?_⟩ <;> try exact no_way) | refine A_o ?_ | refine B_o ?_ | refine C_o ?_ | refine R_o ?_ | refine fR ?_ | refine fRk ?_ | refine F_o ?_) | refine B_l (c1) (fun h1 => ?_) fun h1 => ?_ | refine SA_l ?_ | refine V_l ?_ | refine L_l ?_ | refine Q_l ?_ | refine X_l ?_ | refine Xa_l ?_ | refine Xs_l ?_ | refine K_l ?_ | refine Ka_l ?_ | refine Lk_l ?_ | refine Up_l ?_ | refine Del_l ?_ | refine St_l ?_ | refine LU_l ?_ | refine Xw_l ?_ | refine Le_l ?_ | refine Se_l ?_ | refine M_l ?_ | refine A_l ?_ | refine A0_l ?_ | refine A1_l ?_ | refine Mk_l ?_ | refine Kz_l ?_ | refine W_l ?_ | fail)
    all_goals first
      | exact ⟨by rw [← hfb, show nameF xu = true from h1, show (xk == 0 && (xd == 0 && true)) = true by assumption, show (((xr.map Rule.row).length : Int) == 0) = true by assumption]; rfl, rfl⟩
      | exact ⟨by rw [← hfb, show nameF xu = true from h1, show (xk == 0 && (xd == 0 && true)) = true by assumption, show (((xr.map Rule.row).length : Int) == 0) = false by assumption]; rfl, rfl⟩
      | exact ⟨by rw [← hfb, show nameF xu = true from h1, show (xk == 0 && (xd == 0 && true)) = false by assumption]; rfl, rfl⟩
      | exact ⟨by rw [← hfb, show nameF xu = false from h1]; rfl, rfl⟩
  have be : (!(xu == (⟨#[]⟩ : ByteArray))) = false := by simp [ba_beq, he]
  rw [if_pos he] at hfb
  simp only at hrg hrl
  generalize hv : valF ⟨xk, xd⟩ = v at c3 hfb
  obtain ⟨v1, v2⟩ := v
  refine Spec.body (C := cx [] 82) fits (fn := Tryz.f44) Tryz.func44 rfl (by decide) (by decide) (gI ?_)
  refine ST (wc c3 wz) ?_ <;> (repeat' (first | exact Wl.mk | refine wy1 ?_ ?_)) <;> repeat (intro hb; have hx := wy5 hb; clear hx)
  rotate_left
  · have hv2 : v2 = false := hb
    subst hv2
    refine wLoop [1, 4, 5] 1 1 ?_
    refine wR (gI ?_)
    refine ST wz ?_ <;> (repeat' (first | exact Wl.mk | refine wy1 ?_ ?_)) <;> repeat (intro hb; have hx := wy5 hb; clear hx)
    all_goals exact ⟨by rw [← hfb]; rfl, rfl⟩
  have hv2 : v2 = true := hb
  subst hv2
  refine wLoop [1, 4, 5] 1 (xr.length + 1) ?_
  refine (fun key => key xr [] _ true rfl rfl hfb.symm :
    (∀ (rest done : List Rule) (j : Int) (b : Bool), xr = done ++ rest → j = done.length → fb = (b && rest.all ruleF) →
    WR2 _ _ _ _ _ (rest.length + 1) [(1, .one (.ptr 0 0)), (4, bool b), (5, int .i64 j)] [.var [.d (.sc (.string xu)), .d (.sc (.int .i64 xk)), .d (.sc (.int .i64 xd)), .d (.list (xr.map Rule.row))]]) → _) ?_
  intro rest
  induction rest with
  | nil =>
    intro done j b h1 hj hr
    have hlen : xr.length = done.length := by rw [h1]; simp
    refine wR (gI ?_)
    refine ST wz ?_ <;> (repeat' (first | exact Wl.mk | refine wy1 ?_ ?_)) <;> repeat (intro hb; have hx := wy5 hb; clear hx)
    exact ⟨by rw [hr, List.all_nil, Bool.and_true]; rfl, rfl⟩
  | cons x rest ih =>
    intro done j b h1 hj hr
    have hlen : xr.length = done.length + (rest.length + 1) := by rw [h1]; simp
    cases b with
    | false =>
      refine wR (gI ?_)
      refine ST wz ?_ <;> (repeat' (first | exact Wl.mk | refine wy1 ?_ ?_)) <;> repeat (intro hb; have hx := wy5 hb; clear hx)
      all_goals exact ⟨by rw [hr]; rfl, rfl⟩
    | true =>
    have hxg := hrg x (by rw [h1]; simp)
    have c4 := nameD x.call hxg.1
    have c5 := namesD x.params hxg.2.1 hxg.2.2.1
    rw [Bool.true_and, List.all_cons] at hr
    have hrf : ruleF x = (nameF x.call && (x.params.all nameF && (decide (x.cond.length ≤ 1) && x.cond.all condF))) := rfl
    obtain ⟨rc, rp, rq⟩ := x
    simp only at hrf
    rcases rq with _ | ⟨e, _ | ⟨e2, rq⟩⟩
    · refine wR (gI ?_)
      repeat' (first | ((first | refine C_r ?_ | refine C0_r ?_ | refine O_r ?_ | refine R_r ?_); (conv => whnf); first | (refine ⟨fun hb => ?_, fun hb => ?_⟩ <;> try exact no_way) | refine A_o ?_ | refine B_o ?_ | refine C_o ?_ | refine R_o ?_ | refine fR ?_ | refine fRk ?_ | refine F_o ?_) | refine B_l (c4) (fun g4 => ?_) fun g4 => ?_ | refine B_l (c5) (fun g5 => ?_) fun g5 => ?_ | refine SA_l ?_ | refine V_l ?_ | refine L_l ?_ | refine Q_l ?_ | refine X_l ?_ | refine Xa_l ?_ | refine Xs_l ?_ | refine K_l ?_ | refine Ka_l ?_ | refine Lk_l ?_ | refine Up_l ?_ | refine Del_l ?_ | refine St_l ?_ | refine LU_l ?_ | refine Xw_l ?_ | refine Le_l ?_ | refine Se_l ?_ | refine M_l ?_ | refine A_l ?_ | refine A0_l ?_ | refine A1_l ?_ | refine Mk_l ?_ | refine Kz_l ?_ | refine W_l ?_ | fail)
      · have hx : ruleF (⟨rc, rp, []⟩) = true := by rw [hrf, g4, g5]; rfl
        refine rE (ih (done ++ [⟨rc, rp, []⟩]) _ _ (by rw [h1]; simp) ?_ (by rw [hr, hx]))
        rw [wrap_ok (by omega) (by omega)]; simp [hj]
      · have hx : ruleF (⟨rc, rp, []⟩) = false := by rw [hrf, g4, g5]; rfl
        refine rE (ih (done ++ [⟨rc, rp, []⟩]) _ _ (by rw [h1]; simp) ?_ (by rw [hr, hx]))
        rw [wrap_ok (by omega) (by omega)]; simp [hj]
      · have hx : ruleF (⟨rc, rp, []⟩) = false := by rw [hrf, g4]; rfl
        refine rE (ih (done ++ [⟨rc, rp, []⟩]) _ _ (by rw [h1]; simp) ?_ (by rw [hr, hx]))
        rw [wrap_ok (by omega) (by omega)]; simp [hj]
    · have heg := hxg.2.2.2.2 e (by simp)
      have c6 := boolD (e.size + 1) e (Nat.lt_succ_self _) heg.1
      have c7 := depthD (e.size + 1) e (Nat.lt_succ_self _) heg.2
      have hcf : condF e = (boolF (e.size + 1) e && decide (depthF e ≤ 30)) := rfl
      obtain ⟨ek, eo, en, eu, el⟩ := e
      refine wR (gI ?_)
      repeat' (first | ((first | refine C_r ?_ | refine C0_r ?_ | refine O_r ?_ | refine R_r ?_); (conv => whnf); first | (refine ⟨fun hb => ?_, fun hb => ?_⟩ <;> try exact no_way) | refine A_o ?_ | refine B_o ?_ | refine C_o ?_ | refine R_o ?_ | refine fR ?_ | refine fRk ?_ | refine F_o ?_) | refine B_l (c4) (fun g4 => ?_) fun g4 => ?_ | refine B_l (c5) (fun g5 => ?_) fun g5 => ?_ | refine B_l (c6) (fun g6 => ?_) fun g6 => ?_ | refine C_l (c7) ?_ | refine SA_l ?_ | refine V_l ?_ | refine L_l ?_ | refine Q_l ?_ | refine X_l ?_ | refine Xa_l ?_ | refine Xs_l ?_ | refine K_l ?_ | refine Ka_l ?_ | refine Lk_l ?_ | refine Up_l ?_ | refine Del_l ?_ | refine St_l ?_ | refine LU_l ?_ | refine Xw_l ?_ | refine Le_l ?_ | refine Se_l ?_ | refine M_l ?_ | refine A_l ?_ | refine A0_l ?_ | refine A1_l ?_ | refine Mk_l ?_ | refine Kz_l ?_ | refine W_l ?_ | fail)
      · have hx : ruleF (⟨rc, rp, [Ex.mk ek eo en eu el]⟩) = true := by rw [hrf, g4, g5, List.all_cons, List.all_nil, hcf, g6, hb]; rfl
        refine rE (ih (done ++ [⟨rc, rp, [Ex.mk ek eo en eu el]⟩]) _ _ (by rw [h1]; simp) ?_ (by rw [hr, hx]))
        rw [wrap_ok (by omega) (by omega)]; simp [hj]
      · have hx : ruleF (⟨rc, rp, [Ex.mk ek eo en eu el]⟩) = false := by rw [hrf, g4, g5, List.all_cons, List.all_nil, hcf, g6, hb]; rfl
        refine rE (ih (done ++ [⟨rc, rp, [Ex.mk ek eo en eu el]⟩]) _ _ (by rw [h1]; simp) ?_ (by rw [hr, hx]))
        rw [wrap_ok (by omega) (by omega)]; simp [hj]
      · have hx : ruleF (⟨rc, rp, [Ex.mk ek eo en eu el]⟩) = false := by rw [hrf, g4, g5, List.all_cons, List.all_nil, hcf, g6]; rfl
        refine rE (ih (done ++ [⟨rc, rp, [Ex.mk ek eo en eu el]⟩]) _ _ (by rw [h1]; simp) ?_ (by rw [hr, hx]))
        rw [wrap_ok (by omega) (by omega)]; simp [hj]
      · have hx : ruleF (⟨rc, rp, [Ex.mk ek eo en eu el]⟩) = false := by rw [hrf, g4, g5]; rfl
        refine rE (ih (done ++ [⟨rc, rp, [Ex.mk ek eo en eu el]⟩]) _ _ (by rw [h1]; simp) ?_ (by rw [hr, hx]))
        rw [wrap_ok (by omega) (by omega)]; simp [hj]
      · have hx : ruleF (⟨rc, rp, [Ex.mk ek eo en eu el]⟩) = false := by rw [hrf, g4]; rfl
        refine rE (ih (done ++ [⟨rc, rp, [Ex.mk ek eo en eu el]⟩]) _ _ (by rw [h1]; simp) ?_ (by rw [hr, hx]))
        rw [wrap_ok (by omega) (by omega)]; simp [hj]
    · refine wR (gI ?_)
      repeat' (first | ((first | refine C_r ?_ | refine C0_r ?_ | refine O_r ?_ | refine R_r ?_); (conv => whnf); first | (refine ⟨fun hb => ?_, fun hb => ?_⟩ <;> try exact no_way) | refine A_o ?_ | refine B_o ?_ | refine C_o ?_ | refine R_o ?_ | refine fR ?_ | refine fRk ?_ | refine F_o ?_) | refine B_l (c4) (fun g4 => ?_) fun g4 => ?_ | refine B_l (c5) (fun g5 => ?_) fun g5 => ?_ | refine SA_l ?_ | refine V_l ?_ | refine L_l ?_ | refine Q_l ?_ | refine X_l ?_ | refine Xa_l ?_ | refine Xs_l ?_ | refine K_l ?_ | refine Ka_l ?_ | refine Lk_l ?_ | refine Up_l ?_ | refine Del_l ?_ | refine St_l ?_ | refine LU_l ?_ | refine Xw_l ?_ | refine Le_l ?_ | refine Se_l ?_ | refine M_l ?_ | refine A_l ?_ | refine A0_l ?_ | refine A1_l ?_ | refine Mk_l ?_ | refine Kz_l ?_ | refine W_l ?_ | fail)
      · have hx : ruleF (⟨rc, rp, e :: e2 :: rq⟩) = false := by rw [hrf, g4, g5]; simp
        refine rE (ih (done ++ [⟨rc, rp, e :: e2 :: rq⟩]) _ _ (by rw [h1]; simp) ?_ (by rw [hr, hx]))
        rw [wrap_ok (by omega) (by omega)]; simp [hj]
      · have hx : ruleF (⟨rc, rp, e :: e2 :: rq⟩) = false := by rw [hrf, g4, g5]; rfl
        refine rE (ih (done ++ [⟨rc, rp, e :: e2 :: rq⟩]) _ _ (by rw [h1]; simp) ?_ (by rw [hr, hx]))
        rw [wrap_ok (by omega) (by omega)]; simp [hj]
      · have hx : ruleF (⟨rc, rp, e :: e2 :: rq⟩) = false := by rw [hrf, g4]; rfl
        refine rE (ih (done ++ [⟨rc, rp, e :: e2 :: rq⟩]) _ _ (by rw [h1]; simp) ?_ (by rw [hr, hx]))
        rw [wrap_ok (by omega) (by omega)]; simp [hj]
theorem rightD (u : Un) (h : u.good) : Comp Tryz.prog 18 [.agg u.cells] (bool (rightF u)) := by
  have c1 := valueD u.dflt
  have c2 := namesD u.main h.2.2.2.2.1 h.2.2.2.2.2
  generalize hfb : rightF u = fb
  rw [rightF] at hfb
  obtain ⟨hdl, hd, hpl, hp, hml, hmm⟩ := h
  obtain ⟨ds, ps, ms, ⟨dk, dd⟩⟩ := u
  simp only at hdl hd hpl hp hml hmm hfb
  generalize hv : valF ⟨dk, dd⟩ = v at c1 hfb
  obtain ⟨v1, v2⟩ := v
  refine Spec.body (C := cx [] 88) fits (fn := Tryz.f18) Tryz.func18 rfl (by decide) (by decide) (gI ?_)
  refine ST wz ?_ <;> (repeat' (first | exact Wl.mk | refine wy1 ?_ ?_)) <;> repeat (intro hb; have hx := wy5 hb; clear hx)
  refine wLoop [1, 3] 1 (ds.length + 1) ?_
  refine (fun key => key ds [] _ rfl rfl hfb.symm :
    (∀ (rest done : List Def) (j : Int), ds = done ++ rest → j = done.length → fb = (rest.all defF && (ps.all polRF && (decide (((ms.map strow).length : Int) > 0) && (ms.all nameF && v2)))) →
    WR2 _ _ _ _ _ (rest.length + 1) [(1, .one (.ptr 0 0)), (3, int .i64 j)] [.var [.d (.list (ds.map Def.row)), .d (.list (ps.map Pol.row)), .d (.list (ms.map strow)), .d (.sc (.int .i64 dk)), .d (.sc (.int .i64 dd))]]) → _) ?_
  intro rest
  induction rest with
  | cons x rest ih =>
    intro done j h1 hj hr
    have hlen : ds.length = done.length + (rest.length + 1) := by rw [h1]; simp
    have hxg := hd x (by rw [h1]; simp)
    have c4 := nameD x.name hxg.1
    have c5 := numberD (x.expr.size + 1) x.expr (Nat.lt_succ_self _) hxg.2.1
    have hx : defF x = (nameF x.name && numF (x.expr.size + 1) x.expr) := rfl
    rw [List.all_cons, hx] at hr
    obtain ⟨xn, ⟨xk, xo, xm, xu, xl⟩⟩ := x
    refine wR (gI ?_)
    repeat' (first | ((first | refine C_r ?_ | refine C0_r ?_ | refine O_r ?_ | refine R_r ?_); (conv => whnf); first | (refine ⟨fun hb => ?_, fun hb => ?_⟩ <;> try exact no_way) | refine A_o ?_ | refine B_o ?_ | refine C_o ?_ | refine R_o ?_ | refine fR ?_ | refine fRk ?_ | refine F_o ?_) | refine B_l (c4) (fun g4 => ?_) fun g4 => ?_ | refine B_l (c5) (fun g5 => ?_) fun g5 => ?_ | refine SA_l ?_ | refine V_l ?_ | refine L_l ?_ | refine Q_l ?_ | refine X_l ?_ | refine Xa_l ?_ | refine Xs_l ?_ | refine K_l ?_ | refine Ka_l ?_ | refine Lk_l ?_ | refine Up_l ?_ | refine Del_l ?_ | refine St_l ?_ | refine LU_l ?_ | refine Xw_l ?_ | refine Le_l ?_ | refine Se_l ?_ | refine M_l ?_ | refine A_l ?_ | refine A0_l ?_ | refine A1_l ?_ | refine Mk_l ?_ | refine Kz_l ?_ | refine W_l ?_ | fail)
    · refine rE (ih (done ++ [⟨xn, Ex.mk xk xo xm xu xl⟩]) _ (by rw [h1]; simp) ?_ (by rw [hr, g4, g5]; rfl))
      rw [wrap_ok (by omega) (by omega)]; simp [hj]
    · exact ⟨by rw [hr, g4, g5]; rfl, rfl⟩
    · exact ⟨by rw [hr, g4]; rfl, rfl⟩
  | nil =>
    intro done j h1 hj hr
    have hlen : ds.length = done.length := by rw [h1]; simp
    rw [List.all_nil, Bool.true_and] at hr
    refine wR (gI ?_)
    refine ST wz ?_ <;> (repeat' (first | exact Wl.mk | refine wy1 ?_ ?_)) <;> repeat (intro hb; have hx := wy5 hb; clear hx)
    refine wLoop [1, 4] 1 (ps.length + 1) ?_
    refine (fun key => key ps [] _ rfl rfl hr :
      (∀ (rest done : List Pol) (j : Int), ps = done ++ rest → j = done.length → fb = (rest.all polRF && (decide (((ms.map strow).length : Int) > 0) && (ms.all nameF && v2))) →
      WR2 _ _ _ _ _ (rest.length + 1) [(1, .one (.ptr 0 0)), (4, int .i64 j)] [.var [.d (.list (ds.map Def.row)), .d (.list (ps.map Pol.row)), .d (.list (ms.map strow)), .d (.sc (.int .i64 dk)), .d (.sc (.int .i64 dd))]]) → _) ?_
    intro rest
    induction rest with
    | nil =>
      intro done j h1 hj hr
      have hlen : ps.length = done.length := by rw [h1]; simp
      rw [List.all_nil, Bool.true_and] at hr
      refine wR (gI ?_)
      repeat' (first | ((first | refine C_r ?_ | refine C0_r ?_ | refine O_r ?_ | refine R_r ?_); (conv => whnf); first | (refine ⟨fun hb => ?_, fun hb => ?_⟩ <;> try exact no_way) | refine A_o ?_ | refine B_o ?_ | refine C_o ?_ | refine R_o ?_ | refine fR ?_ | refine fRk ?_ | refine F_o ?_) | refine C_l (c1) ?_ | refine B_l (c2) (fun g2 => ?_) fun g2 => ?_ | refine SA_l ?_ | refine V_l ?_ | refine L_l ?_ | refine Q_l ?_ | refine X_l ?_ | refine Xa_l ?_ | refine Xs_l ?_ | refine K_l ?_ | refine Ka_l ?_ | refine Lk_l ?_ | refine Up_l ?_ | refine Del_l ?_ | refine St_l ?_ | refine LU_l ?_ | refine Xw_l ?_ | refine Le_l ?_ | refine Se_l ?_ | refine M_l ?_ | refine A_l ?_ | refine A0_l ?_ | refine A1_l ?_ | refine Mk_l ?_ | refine Kz_l ?_ | refine W_l ?_ | fail)
      · have hv2 : v2 = true := (by assumption)
        have hm : decide (((ms.map strow).length : Int) > 0) = true := (by assumption)
        exact ⟨by rw [hr, hm, g2, hv2]; rfl, rfl⟩
      · have hm : decide (((ms.map strow).length : Int) > 0) = true := (by assumption)
        exact ⟨by rw [hr, hm, g2]; rfl, rfl⟩
      · have hm : decide (((ms.map strow).length : Int) > 0) = false := (by assumption)
        exact ⟨by rw [hr, hm]; rfl, rfl⟩
      · have hv2 : v2 = false := (by assumption)
        exact ⟨by rw [hr, hv2, Bool.and_false, Bool.and_false]; rfl, rfl⟩
    | cons x rest ih =>
      intro done j h1 hj hr
      have hlen : ps.length = done.length + (rest.length + 1) := by rw [h1]; simp
      have hxg := hp x (by rw [h1]; simp)
      have c4 := nameD x.name hxg.1
      have hpg := hxg.2.2
      have hpn := hxg.2.1
      have hx : polRF x = (nameF x.name && x.parts.all partRF) := rfl
      rw [List.all_cons, hx] at hr
      obtain ⟨pn, pp⟩ := x
      simp only at hpg hpn hr
      refine wR (gI ?_)
      repeat' (first | ((first | refine C_r ?_ | refine C0_r ?_ | refine O_r ?_ | refine R_r ?_); (conv => whnf); first | (refine ⟨fun hb => ?_, fun hb => ?_⟩ <;> try exact no_way) | refine A_o ?_ | refine B_o ?_ | refine C_o ?_ | refine R_o ?_ | refine fR ?_ | refine fRk ?_ | refine F_o ?_) | refine B_l (c4) (fun g4 => ?_) fun g4 => ?_ | refine SA_l ?_ | refine V_l ?_ | refine L_l ?_ | refine Q_l ?_ | refine X_l ?_ | refine Xa_l ?_ | refine Xs_l ?_ | refine K_l ?_ | refine Ka_l ?_ | refine Lk_l ?_ | refine Up_l ?_ | refine Del_l ?_ | refine St_l ?_ | refine LU_l ?_ | refine Xw_l ?_ | refine Le_l ?_ | refine Se_l ?_ | refine M_l ?_ | refine A_l ?_ | refine A0_l ?_ | refine A1_l ?_ | refine Mk_l ?_ | refine Kz_l ?_ | refine W_l ?_ | fail)
      rotate_left
      · exact ⟨by rw [hr, g4]; rfl, rfl⟩
      rw [g4, Bool.true_and, Bool.and_assoc] at hr
      generalize hX : (rest.all polRF && (decide (((ms.map strow).length : Int) > 0) && (ms.all nameF && v2))) = X at hr
      refine wLoop [1, 4, 5] 1 (pp.length + 1) ?_
      refine (fun key => key pp [] _ rfl rfl hr :
        (∀ (rest2 done2 : List Part) (j2 : Int), pp = done2 ++ rest2 → j2 = done2.length → fb = (rest2.all partRF && X) →
        WR2 _ _ _ _ _ (rest2.length + 1) [(1, .one (.ptr 0 0)), (4, int .i64 j), (5, int .i64 j2)] [.var [.d (.list (ds.map Def.row)), .d (.list (ps.map Pol.row)), .d (.list (ms.map strow)), .d (.sc (.int .i64 dk)), .d (.sc (.int .i64 dd))]]) → _) ?_
      intro rest2
      clear hr
      induction rest2 with
      | nil =>
        intro done2 j2 h2 hj2 hr
        have hlen2 : pp.length = done2.length := by rw [h2]; simp
        refine wR (gI ?_)
        refine ST wz ?_ <;> (repeat' (first | exact Wl.mk | refine wy1 ?_ ?_)) <;> repeat (intro hb; have hx := wy5 hb; clear hx)
        refine rE (ih (done ++ [⟨pn, pp⟩]) _ (by rw [h1]; simp) ?_ (by rw [hr, hX]; rfl))
        rw [wrap_ok (by omega) (by omega)]; simp [hj]
      | cons y rest2 ih2 =>
        intro done2 j2 h2 hj2 hr
        have hlen2 : pp.length = done2.length + (rest2.length + 1) := by rw [h2]; simp
        have c6 := partD y (hpg y (by rw [h2]; simp))
        rw [List.all_cons] at hr
        obtain ⟨yu, ⟨yk, yd⟩, yr⟩ := y
        refine wR (gI ?_)
        repeat' (first | ((first | refine C_r ?_ | refine C0_r ?_ | refine O_r ?_ | refine R_r ?_); (conv => whnf); first | (refine ⟨fun hb => ?_, fun hb => ?_⟩ <;> try exact no_way) | refine A_o ?_ | refine B_o ?_ | refine C_o ?_ | refine R_o ?_ | refine fR ?_ | refine fRk ?_ | refine F_o ?_) | refine B_l (c6) (fun g6 => ?_) fun g6 => ?_ | refine SA_l ?_ | refine V_l ?_ | refine L_l ?_ | refine Q_l ?_ | refine X_l ?_ | refine Xa_l ?_ | refine Xs_l ?_ | refine K_l ?_ | refine Ka_l ?_ | refine Lk_l ?_ | refine Up_l ?_ | refine Del_l ?_ | refine St_l ?_ | refine LU_l ?_ | refine Xw_l ?_ | refine Le_l ?_ | refine Se_l ?_ | refine M_l ?_ | refine A_l ?_ | refine A0_l ?_ | refine A1_l ?_ | refine Mk_l ?_ | refine Kz_l ?_ | refine W_l ?_ | fail)
        · refine rE (ih2 (done2 ++ [⟨yu, ⟨yk, yd⟩, yr⟩]) _ (by rw [h2]; simp) ?_ (by rw [hr, g6, Bool.true_and]))
          rw [wrap_ok (by omega) (by omega)]; simp [hj2]
        · exact ⟨by rw [hr, g6]; rfl, rfl⟩
end Go.Proofs.YtjjhckmnnaafkaaGreatDoor
namespace Go.Proofs.YtjjhckmnnaafkaaGreatDoor
open Go Go.Am Go.Proofs
attribute [local irreducible] W WL DL WO RoundEnd
set_option maxRecDepth 10000
set_option maxHeartbeats 4000000
end Go.Proofs.YtjjhckmnnaafkaaGreatDoor
namespace Go.Proofs.YtjjhckmnnaafkaaGreatDoor
open Go Go.Am Go.Proofs
attribute [local irreducible] W WL DL WO RoundEnd
set_option maxRecDepth 10000
set_option maxHeartbeats 4000000
end Go.Proofs.YtjjhckmnnaafkaaGreatDoor
namespace Go.Proofs.YtjjhckmnnaafkaaGreatDoor
open Go Go.Am Go.Proofs
theorem def_typed {xs : List D} (h : Typed Tryz.prog 78 xs) : ∃ x : Def, xs = x.row ∧ True := by
  obtain ⟨xss, rfl, hn, hf⟩ := h.struct_inv Tryz.underlying78
  rcases xss with _ | ⟨a, _ | ⟨b, _ | ⟨c, r⟩⟩⟩
  all_goals try (simp at hn; done)
  obtain ⟨s0, rfl, _⟩ := str_typed (hf 0 _ a rfl rfl)
  obtain ⟨e, rfl, _⟩ := ex_typed _ (Nat.lt_succ_self _) (hf 1 _ b rfl rfl)
  exact ⟨⟨s0, e⟩, by simp [Def.row, strow], trivial⟩
theorem un_typed {xs : List D} (h : Typed Tryz.prog 28 xs) : ∃ u : Un, xs.map Cell.d = u.cells := by
  obtain ⟨xss, rfl, hn, hf⟩ := h.struct_inv Tryz.underlying28
  rcases xss with _ | ⟨a, _ | ⟨b, _ | ⟨c, _ | ⟨d, _ | ⟨e, r⟩⟩⟩⟩⟩
  all_goals try (simp at hn; done)
  obtain ⟨rows, rfl, hr, _⟩ := (hf 0 _ a rfl rfl).slice_inv Tryz.underlying22
  obtain ⟨ds, rfl, _⟩ := list_typed (fun _ _ h => def_typed h) hr
  obtain ⟨ps, rfl, _, _⟩ := pols_typed (hf 1 _ b rfl rfl)
  obtain ⟨ms, rfl, _⟩ := strs_typed (hf 2 _ c rfl rfl)
  obtain ⟨a1, rfl⟩ := act_typed (hf 3 _ d rfl rfl)
  exact ⟨⟨ds, ps, ms, a1⟩, rfl⟩
end Go.Proofs.YtjjhckmnnaafkaaGreatDoor
