/- The abstract machine: what is handed to a law reads as data. -/
import Derived.Test.YtfbocpbeogkapaaAmOpen
set_option linter.unusedVariables false
set_option linter.unusedSimpArgs false
namespace Go.Am

theorem all_append {l m : List Nat} {p : Nat → Bool} (h : (l ++ m).all p = true) : l.all p = true ∧ m.all p = true := by
  simpa [List.all_append] using h

theorem weightsAll_mem {H : Type} {P : Program} {e : TypeId} : ∀ {l : List (DataW H)}, (DataW.weightsAll P e l).all (· ≤ reachBytes) = true → ∀ d ∈ l, (d.weights P e).all (· ≤ reachBytes) = true
  | [], _, d, h => by simp at h
  | x :: l, h, d, hd => by
    simp only [DataW.weightsAll] at h
    obtain ⟨h1, h2⟩ := all_append h
    rcases List.mem_cons.1 hd with rfl | hd
    · exact h1
    · exact weightsAll_mem h2 d hd
theorem weightsEach_get {H : Type} {P : Program} : ∀ {ts : List TypeId} {l : List (DataW H)}, (DataW.weightsEach P ts l).all (· ≤ reachBytes) = true → ∀ (i : Nat) t d, ts[i]? = some t → l[i]? = some d → (d.weights P t).all (· ≤ reachBytes) = true
  | [], _, _, i, t, d, h, _ => by simp at h
  | _ :: _, [], _, i, t, d, _, h => by simp at h
  | t :: ts, x :: l, h, i, t', d, h1, h2 => by
    simp only [DataW.weightsEach] at h
    obtain ⟨h3, h4⟩ := all_append h
    cases i with
    | zero => simp at h1 h2; subst h1; subst h2; exact h3
    | succ i => exact weightsEach_get h4 i t' d (by simpa using h1) (by simpa using h2)

theorem exists_list {α : Type} {p : Nat → α → Prop} : ∀ (n : Nat), (∀ i, i < n → ∃ x, p i x) → ∃ l : List α, l.length = n ∧ ∀ i x, l[i]? = some x → p i x
  | 0, _ => ⟨[], rfl, fun i x h => by simp at h⟩
  | n + 1, h => by
    obtain ⟨l, h1, h2⟩ := exists_list n fun i hi => h i (by omega)
    obtain ⟨x, hx⟩ := h n (by omega)
    refine ⟨l ++ [x], by simp [h1], fun i y hi => ?_⟩
    rw [List.getElem?_append] at hi
    split at hi
    · exact h2 i y hi
    · rename_i hlt
      cases hk : i - l.length with
      | zero =>
        rw [hk] at hi; simp at hi; subst hi
        have : i = n := by omega
        subst this; exact hx
      | succ k => rw [hk] at hi; simp at hi

theorem open_sound {H : Type} {enc : TypeId × Value → H} {P : Program} {w : World} {spare : Nat → Bool} {held : Bool} : ∀ (fuel k : Nat) (t : TypeId) (cs : List Value) (d : DataW H) (ps : List MemPlace),
    readOk P k t = true → DataW.trod enc P w 0 spare held fuel t cs = some (d, ps) → (d.weights P t).all (· ≤ reachBytes) = true → ∃ xs, Typed P t xs ∧ RDs (S0 w) w xs cs
  | 0, k, t, cs, d, ps, _, h, _ => by simp [DataW.trod] at h
  | fuel + 1, 0, t, cs, d, ps, hok, _, _ => by simp [readOk] at hok
  | fuel + 1, k + 1, t, cs, d, ps, hok, h, hw => by
    have ih := open_sound (enc := enc) (P := P) (w := w) (spare := spare) (held := held) fuel k
    unfold readOk at hok
    split at hok
    case h_1 hu =>
      unfold DataW.trod at h; simp only [hu] at h
      split at h
      all_goals first
        | (exfalso; simp_all; done)
        | skip
      all_goals
        rename_i b heq
        exact ⟨[.sc (.bool b)], .bool t b hu, .single (.sc _ rfl)⟩
    case h_2 kk hu =>
      unfold DataW.trod at h; simp only [hu] at h
      split at h
      all_goals first
        | (exfalso; simp_all; done)
        | skip
      all_goals
        rename_i k2 k3 n heq
        injection heq with heq; injection heq with heq; subst heq
        split at h
        · rename_i hc
          obtain ⟨rfl, hwf⟩ := hc
          exact ⟨[.sc (.int _ n)], .int t _ n hu hwf, .single (.sc _ rfl)⟩
        · simp at h
    case h_3 hu =>
      unfold DataW.trod at h; simp only [hu] at h
      split at h
      all_goals first
        | (exfalso; simp_all; done)
        | skip
      all_goals
        rename_i s heq
        split at h
        · simp only [Option.some.injEq, Prod.mk.injEq] at h
          obtain ⟨rfl, rfl⟩ := h
          simp only [DataW.weights, List.all_cons, List.all_nil, Bool.and_true, decide_eq_true_eq] at hw
          exact ⟨[.sc (.string s)], .str t s hu (by simpa using hw), .single (.sc _ rfl)⟩
        · simp at h
    case h_4 e hu =>
      simp only [Bool.and_eq_true] at hok
      have hpos : 0 < P.cellsOf e := Nat.le_of_ble_eq_true hok.1
      unfold DataW.trod at h; simp only [hu] at h
      split at h
      all_goals first
        | (exfalso; simp_all; done)
        | skip
      · simp only [Option.some.injEq, Prod.mk.injEq] at h
        exact ⟨[.list []], .slice t e [] hu (fun row h => by simp at h) (by simp), .single (.nil _ _)⟩
      · rename_i e2 a len cap heq
        injection heq with heq; injection heq with heq; subst heq
        split at h
        case isFalse => simp at h
        rename_i hc
        cases hm : List.mapM (fun i => (w.cells? 0 (a.add (i * P.cellsOf e)) (P.cellsOf e)).bind (DataW.trod enc P w 0 spare held fuel e)) (List.range len) with
        | none => rw [hm] at h; simp at h
        | some elems =>
        rw [hm] at h
        simp only [Option.bind_some, Option.map_eq_some_iff] at h
        obtain ⟨rest, _, h2⟩ := h
        simp only [Prod.mk.injEq] at h2
        obtain ⟨rfl, _⟩ := h2
        obtain ⟨hl1, hm2⟩ := mapM_spec hm
        simp only [List.length_range] at hl1
        simp only [DataW.weights, hu, List.all_cons, Bool.and_eq_true, decide_eq_true_eq, List.length_map] at hw
        obtain ⟨hw1, hw2⟩ := hw
        have hw3 := weightsAll_mem (all_append hw2).1
        obtain ⟨rows, hr1, hr2⟩ := exists_list (p := fun i x => ∃ csi, w.cells? 0 (a.add (i * P.cellsOf e)) (P.cellsOf e) = some csi ∧ Typed P e x ∧ RDs (S0 w) w x csi) len fun i hi => by
          obtain ⟨y, h3, h4⟩ := hm2 i i (List.getElem?_range hi)
          rw [Option.bind_eq_some_iff] at h3
          obtain ⟨csi, h5, h6⟩ := h3
          obtain ⟨x, h7, h8⟩ := ih e csi y.1 y.2 hok.2 h6 (hw3 y.1 (List.mem_map.2 ⟨y, List.mem_of_getElem? h4, rfl⟩))
          exact ⟨x, csi, h5, h7, h8⟩
        refine ⟨[.list rows], .slice t e rows hu (fun row hrow => ?_) ?_, .single ?_⟩
        · obtain ⟨i, hi⟩ := List.mem_iff_getElem?.1 hrow
          obtain ⟨_, _, h3, _⟩ := hr2 i row hi
          exact h3
        · rw [hr1, ← hl1]
          exact Nat.le_trans (Nat.mul_le_mul_right _ (by omega)) hw1
        · have key : ∀ (i j : Nat) (row : List D) (d : D), rows[i]? = some row → row[j]? = some d → ∃ v, a.spot = none ∧ cellAt w a.block (a.off + (i * P.cellsOf e + j)) = some v ∧ RD (S0 w) w d v := by
            intro i j row d h1 h2
            obtain ⟨csi, h3, _, h4⟩ := hr2 i row h1
            obtain ⟨h5, h6⟩ := cells_spec h3
            have hj : j < P.cellsOf e := by
              have := (List.getElem?_eq_some_iff.1 h2).1
              rw [h4.1, h5] at this; exact this
            obtain ⟨v, h7, h8⟩ := h6 j hj
            have hrd := h4.2 j d v h2 h7
            have hi0 : 0 < rows.length := by have := (List.getElem?_eq_some_iff.1 h1).1; omega
            have hspot : a.spot = none := by
              obtain ⟨cs0, h9, _, h10⟩ := hr2 0 rows[0] (List.getElem?_eq_getElem hi0)
              obtain ⟨_, h12⟩ := cells_spec h9
              obtain ⟨v0, _, h13⟩ := h12 0 hpos
              have := cell_spot h13
              simpa [Addr.add] using this
            refine ⟨v, hspot, ?_, hrd⟩
            rw [add_spec hspot, add_spec rfl] at h8
            unfold cellAt
            rw [← h8]
            congr 2
            simp only []
            omega
          cases hlen : rows.length with
          | zero =>
            have : rows = [] := List.length_eq_zero_iff.1 hlen
            subst this
            rw [← hr1]; exact .nil _ _
          | succ m =>
            have h0 : 0 < rows.length := by omega
            have hlen0 : rows[0].length = P.cellsOf e := by
              obtain ⟨cs0, h9, _, h10⟩ := hr2 0 rows[0] (List.getElem?_eq_getElem h0)
              rw [h10.1, (cells_spec h9).1]
            have hspot : a.spot = none := by
              have h1 : rows[0][0]? = some rows[0][0] := List.getElem?_eq_getElem (by omega)
              obtain ⟨_, h, _⟩ := key 0 0 _ _ (List.getElem?_eq_getElem h0) h1
              exact h
            have ha : a = ⟨a.block, a.off, none⟩ := by cases a; simp at hspot; subst hspot; rfl
            have := RD.list (S := S0 w) (w := w) a.block a.off cap (P.cellsOf e) rows (fun i j => (cellAt w a.block (a.off + (i * P.cellsOf e + j))).getD Go.undef) (by omega)
              (fun i row h1 => by obtain ⟨csi, h3, _, h4⟩ := hr2 i row h1; rw [h4.1, (cells_spec h3).1])
              (fun i j row d h1 h2 => by obtain ⟨v, _, h4, _⟩ := key i j row d h1 h2; exact ⟨⟨v, h4⟩, by rw [h4]; rfl⟩)
              (fun i j row d h1 h2 => by obtain ⟨v, _, h4, h5⟩ := key i j row d h1 h2; rw [h4]; exact h5)
            rw [hr1] at this
            rw [ha]; exact this
    case h_5 fs hu =>
      simp only [Bool.and_eq_true] at hok
      unfold DataW.trod at h; simp only [hu] at h
      split at h
      all_goals first
        | (exfalso; simp_all; done)
        | skip
      rename_i hlen
      simp only [Option.map_eq_some_iff] at h
      obtain ⟨ys, hm, h2⟩ := h
      simp only [Prod.mk.injEq] at h2
      obtain ⟨rfl, _⟩ := h2
      obtain ⟨hl1, hm2⟩ := mapM_spec hm
      simp only [DataW.weights, hu] at hw
      have hw3 := weightsEach_get hw
      obtain ⟨xss, hx1, hx2⟩ := exists_list (p := fun i x => ∀ f, fs.toList[i]? = some f → Typed P f.type x ∧ RDs (S0 w) w x ((cs.drop f.offset).take (P.cellsOf f.type))) fs.size fun i hi => by
        have hf : fs.toList[i]? = some fs[i] := by rw [Array.getElem?_toList]; exact Array.getElem?_eq_getElem hi
        obtain ⟨y, h3, h4⟩ := hm2 i _ hf
        have hokf : readOk P k fs[i].type = true := (List.all_eq_true.1 hok.2) _ (List.mem_of_getElem? hf)
        obtain ⟨x, h7, h8⟩ := ih fs[i].type _ y.1 y.2 hokf h3 (hw3 i _ y.1 (by rw [List.getElem?_map, hf]; rfl) (by rw [List.getElem?_map, h4]; rfl))
        refine ⟨x, fun f hf2 => ?_⟩
        rw [hf] at hf2; injection hf2 with hf2; subst hf2; exact ⟨h7, h8⟩
      refine ⟨xss.flatten, .struct t fs xss hu hx1 fun i f xs h1 h2 => (hx2 i xs h2 f h1).1, ?_⟩
      have hcons : consec P fs.toList 0 = some cs.length := by
        have := hok.1
        split at this
        · rename_i m hm; rw [hm, hlen, Nat.eq_of_beq_eq_true this]
        · simp at this
      have hflat := consec_flat hcons (Nat.zero_le _) rfl
      rw [List.drop_zero] at hflat
      rw [← hflat]
      refine flat_rel (by simp [hx1]) fun i xs c h1 h2 => ?_
      rw [List.getElem?_map, Option.map_eq_some_iff] at h2
      obtain ⟨f, hf, rfl⟩ := h2
      exact (hx2 i xs h1 f hf).2
    case h_6 n e hu =>
      simp only [Bool.and_eq_true] at hok
      unfold DataW.trod at h; simp only [hu] at h
      split at h
      all_goals first
        | (exfalso; simp_all; done)
        | skip
      rename_i hlen
      simp only [Option.map_eq_some_iff] at h
      obtain ⟨ys, hm, h2⟩ := h
      simp only [Prod.mk.injEq] at h2
      obtain ⟨rfl, _⟩ := h2
      obtain ⟨hl1, hm2⟩ := mapM_spec hm
      simp only [DataW.weights, hu] at hw
      have hw3 := weightsAll_mem hw
      obtain ⟨xss, hx1, hx2⟩ := exists_list (p := fun i x => Typed P e x ∧ RDs (S0 w) w x ((cs.drop (i * P.cellsOf e)).take (P.cellsOf e))) n fun i hi => by
        obtain ⟨y, h3, h4⟩ := hm2 i i (List.getElem?_range hi)
        obtain ⟨x, h7, h8⟩ := ih e _ y.1 y.2 hok.2 h3 (hw3 y.1 (List.mem_map.2 ⟨y, List.mem_of_getElem? h4, rfl⟩))
        exact ⟨x, h7, h8⟩
      refine ⟨xss.flatten, .array t n e xss hu hx1 fun xs hxs => ?_, ?_⟩
      · obtain ⟨i, hi⟩ := List.mem_iff_getElem?.1 hxs
        exact (hx2 i xs hi).1
      have hflat := array_flat (cs := cs) (m := P.cellsOf e) n 0 (by omega) (by rw [Nat.zero_add, Nat.eq_of_beq_eq_true hok.1, hlen])
      rw [Nat.zero_mul, List.drop_zero] at hflat
      rw [← hflat]
      refine flat_rel (by simp [hx1]) fun i xs c h1 h2 => ?_
      rw [List.getElem?_map, Option.map_eq_some_iff] at h2
      obtain ⟨j, hj, rfl⟩ := h2
      rw [← List.range_eq_range'] at hj
      have : j = i := by
        obtain ⟨h3, h4⟩ := List.getElem?_eq_some_iff.1 hj
        simpa using h4.symm
      subst this
      exact (hx2 j xs h1).2
    case h_7 => simp at hok
end Go.Am
