/- A part of a proof: functions of the program, walked over the abstract machine. -/
import Derived.Test.YtfbocpbeogkapaaUses10
set_option linter.unusedVariables false
set_option linter.unusedSimpArgs false
namespace Go.Proofs.Ytfbocpbeogkapaa
open Go Go.Am Go.Proofs
/-- what stands under a key -/
def look {α : Type} : List (ByteArray × α) → ByteArray → Option α
  | [], _ => none
  | (k', v) :: r, k => if k = k' then some v else look r k
theorem look_fk {α : Type} (k : ByteArray) : ∀ (l : List (ByteArray × α)) (i : Nat), look l k = (fk k l i).map (·.2)
  | [], i => rfl
  | (k', v) :: r, i => by
    rw [look, fk]
    split
    · rfl
    · exact look_fk k r (i + 1)
theorem look_app {α : Type} (k : ByteArray) (m : List (ByteArray × α)) : ∀ (l : List (ByteArray × α)), look (l ++ m) k = (match look l k with | some v => some v | none => look m k)
  | [] => rfl
  | (k', v) :: r => by
    rw [List.cons_append, look, look]
    split
    · rfl
    · exact look_app k m r
theorem look_some_app {α : Type} {k : ByteArray} {v : α} {l m : List (ByteArray × α)} (h : look l k = some v) : look (l ++ m) k = some v := by rw [look_app, h]
theorem look_none_app {α : Type} {k : ByteArray} {l m : List (ByteArray × α)} (h : look l k = none) : look (l ++ m) k = look m k := by rw [look_app, h]
theorem fk_look_none {α : Type} {k : ByteArray} {l : List (ByteArray × α)} : fk k l 0 = none ↔ look l k = none := by
  rw [look_fk k l 0]; simp
/-- a list of parts with what is known in place of uses -/
def expand (K : AL (List Part)) (ps : List Part) : List Part := ps.flatMap fun x => if x.use = ⟨#[]⟩ then [x] else (look K x.use).getD []
def allIn (K : AL (List Part)) (ps : List Part) : Prop := ∀ x ∈ ps, x.use ≠ ⟨#[]⟩ → ∃ v, look K x.use = some v
theorem expand_app {K E : AL (List Part)} : ∀ {ps : List Part}, allIn K ps → expand (K ++ E) ps = expand K ps
  | [], _ => rfl
  | x :: r, h => by
    have hr := expand_app (K := K) (E := E) (ps := r) fun y hy => h y (by simp [hy])
    simp only [expand, List.flatMap_cons] at hr ⊢
    rw [hr]
    congr 1
    by_cases hx : x.use = ⟨#[]⟩
    · simp [hx]
    · obtain ⟨v, hv⟩ := h x (by simp) hx
      simp [hx, hv, look_some_app hv]
inductive Good (m : AL (List Part)) : AL (List Part) → Prop
  | nil : Good m []
  | snoc {K : AL (List Part)} {name : ByteArray} {ps : List Part} : Good m K → look m name = some ps → allIn K ps → look K name = none → Good m (K ++ [(name, expand K ps)])
theorem goodParts {K : AL (List Part)} {g : Nat → ByteArray → (List Part × Int) × Nat} (hg : ∀ q qs, look K q = some qs → ∀ c, c ≤ 500 → (c + qs.length > 500 → (g c q).1 = ([], 9)) ∧ (c + qs.length ≤ 500 → g c q = ((qs, 0), c + qs.length))) :
    ∀ (ps : List Part) (c : Nat) (out : List Part), allIn K ps → c ≤ 500 → (c + (expand K ps).length > 500 → (rPartsF g c out ps).1 = ([], 9)) ∧ (c + (expand K ps).length ≤ 500 → rPartsF g c out ps = ((out ++ expand K ps, 0), c + (expand K ps).length))
  | [], c, out, _, hc => by
    constructor
    · intro h; simp [expand] at h; omega
    · intro _; simp [expand, rPartsF]
  | x :: r, c, out, h, hc => by
    have hr : allIn K r := fun y hy => h y (by simp [hy])
    by_cases hx : x.use = ⟨#[]⟩
    · have e : expand K (x :: r) = x :: expand K r := by simp [expand, hx]
      rw [e]; simp only [rPartsF, if_pos hx, List.length_cons]
      by_cases h5 : c + 1 > 500
      · rw [if_pos h5]
        exact ⟨fun _ => rfl, fun h6 => by omega⟩
      · rw [if_neg h5]
        have ih := goodParts hg r (c + 1) (out ++ [x]) hr (by omega)
        refine ⟨fun h6 => ih.1 (by omega), fun h6 => ?_⟩
        rw [ih.2 (by omega)]
        simp; omega
    · obtain ⟨v, hv⟩ := h x (by simp) hx
      have e : expand K (x :: r) = v ++ expand K r := by simp [expand, hx, hv]
      rw [e]; simp only [rPartsF, if_neg hx, List.length_append]
      have g1 := hg x.use v hv c hc
      by_cases h5 : c + v.length > 500
      · rw [if_neg (by rw [g1.1 h5]; decide)]
        refine ⟨fun _ => by rw [g1.1 h5], fun h6 => by omega⟩
      · rw [g1.2 (by omega)]
        simp only [if_true]
        have ih := goodParts hg r (c + v.length) (out ++ v) hr (by omega)
        refine ⟨fun h6 => ih.1 (by omega), fun h6 => ?_⟩
        rw [ih.2 (by omega)]
        simp; omega
theorem any_eq {op : List ByteArray} {k : ByteArray} : op.any (· == k) = false ↔ k ∉ op := by
  rw [Bool.eq_false_iff, Ne, List.any_eq_true]
  constructor
  · intro h hk; exact h ⟨k, hk, by simp [ba_beq]⟩
  · rintro h ⟨x, hx, hk⟩; rw [ba_beq, decide_eq_true_eq] at hk; exact h (hk ▸ hx)
theorem goodRef {m : AL (List Part)} {l : List Pol} (hlm : ∀ name, lastOf l name = look m name) {K : AL (List Part)} (hK : Good m K) : ∀ (q : ByteArray) (qs : List Part), look K q = some qs → ∀ (n : Nat) (op : List ByteArray), (∀ k v, look K k = some v → k ∉ op) → roomR l op < n → ∀ c, c ≤ 500 →
    (c + qs.length > 500 → (refF l n op c q).1 = ([], 9)) ∧ (c + qs.length ≤ 500 → refF l n op c q = ((qs, 0), c + qs.length)) := by
  induction hK with
  | nil => intro q qs h; simp [look] at h
  | @snoc K name ps hK h1 h2 h3 ih =>
    intro q qs hq n op hop hn c hc
    rw [look_app] at hq
    cases hk : look K q with
    | some v =>
      rw [hk] at hq
      injection hq with hq; subst hq
      exact ih q v hk n op (fun k w hw => hop k w (look_some_app hw)) hn c hc
    | none =>
      rw [hk] at hq
      simp only [look] at hq
      split at hq
      · rename_i he; subst he
        injection hq with hq; subst hq
        cases n with
        | zero => omega
        | succ n =>
          have hnot : q ∉ op := hop q (expand K ps) (by rw [look_none_app h3]; simp [look])
          have e1 : lastOf l q = some ps := by rw [hlm, h1]
          have e2 : op.any (· == q) = false := any_eq.2 hnot
          have e3 : refF l (n + 1) op c q = rPartsF (refF l n (op ++ [q])) c [] ps := by simp only [refF, e1, e2]; rfl
          rw [e3]
          have hlt := roomR_lt e1 e2
          have := goodParts (K := K) (g := refF l n (op ++ [q])) (fun p pv hp c hc => ih p pv hp n (op ++ [q]) (fun k w hw => by
            intro hmem
            rcases List.mem_append.1 hmem with h4 | h4
            · exact hop k w (look_some_app hw) h4
            · simp at h4; subst h4; rw [h3] at hw; simp at hw) (by omega) c hc) ps c [] h2 hc
          simpa using this
      · simp at hq
/-- the two ways hold the same -/
def Rel (m : AL (List Part)) (s : Fl) : Prop := Good m s.known ∧ ∀ k v, look s.known k = some v → look s.within k = none
theorem setK_new {α : Type} {l : AL α} {k : ByteArray} {v : α} (h : look l k = none) : setK l k v = l ++ [(k, v)] := by
  have := fk_look_none.2 h
  simp only [setK, this]
theorem look_within {w : AL Unit} {k : ByteArray} : look w k = none ↔ k ∉ w.map (·.1) := by
  rw [← fk_look_none, fk_none]
theorem partsSim {m : AL (List Part)} {l : List Pol} {n n' : Nat} {W : AL Unit}
    (IH : ∀ (s : Fl) (name : ByteArray), s.ok → Rel m s → s.within = W →
      (polF m n s name).1 = (refF l n' (W.map (·.1)) s.out.length name).1.2 ∧ ((refF l n' (W.map (·.1)) s.out.length name).1.2 ≠ 0 → (refF l n' (W.map (·.1)) s.out.length name).1.1 = []) ∧
      ((polF m n s name).1 = 0 → Rel m (polF m n s name).2 ∧ (∃ E, (polF m n s name).2.known = s.known ++ E) ∧ (polF m n s name).2.out = s.out ++ (refF l n' (W.map (·.1)) s.out.length name).1.1 ∧
        (refF l n' (W.map (·.1)) s.out.length name).2 = (polF m n s name).2.out.length ∧ look (polF m n s name).2.known name = some (refF l n' (W.map (·.1)) s.out.length name).1.1)) :
    ∀ (rest : List Part) (t : Fl) (b rout : List Part), t.ok → Rel m t → t.within = W → t.out = b ++ rout →
      (partsF (polF m n) t rest).1 = (rPartsF (refF l n' (W.map (·.1))) t.out.length rout rest).1.2 ∧ ((rPartsF (refF l n' (W.map (·.1))) t.out.length rout rest).1.2 ≠ 0 → (rPartsF (refF l n' (W.map (·.1))) t.out.length rout rest).1.1 = []) ∧
      ((partsF (polF m n) t rest).1 = 0 → Rel m (partsF (polF m n) t rest).2 ∧ (∃ E, (partsF (polF m n) t rest).2.known = t.known ++ E) ∧ (partsF (polF m n) t rest).2.out = b ++ (rPartsF (refF l n' (W.map (·.1))) t.out.length rout rest).1.1 ∧
        (rPartsF (refF l n' (W.map (·.1))) t.out.length rout rest).2 = (partsF (polF m n) t rest).2.out.length ∧
        (rPartsF (refF l n' (W.map (·.1))) t.out.length rout rest).1.1 = rout ++ expand (partsF (polF m n) t rest).2.known rest ∧ allIn (partsF (polF m n) t rest).2.known rest)
  | [], t, b, rout, ht, hR, hW, ho => by
    refine ⟨rfl, fun h => absurd rfl h, fun _ => ⟨hR, ⟨[], by simp [partsF]⟩, ho, rfl, by simp [rPartsF, expand], fun x hx => by simp at hx⟩⟩
  | x :: r, t, b, rout, ht, hR, hW, ho => by
    by_cases hx : x.use = ⟨#[]⟩
    · simp only [partsF, rPartsF, if_pos hx]
      by_cases h5 : t.out.length + 1 > 500
      · have e : (addF t [x]).1 = 9 := by simp [addF, addE]; omega
        rw [if_pos h5, e]
        refine ⟨by simp [e], fun _ => rfl, fun h => ?_⟩
        simp [e] at h
      · have e : (addF t [x]).1 = 0 := by simp [addF, addE]; omega
        rw [if_neg h5, if_pos e]
        have hg := addF_good ht e
        have ih := partsSim IH r (addF t [x]).2 b (rout ++ [x]) hg.1 hR (by rw [hg.2.1, hW]) (by simp [addF, ho])
        have el : (addF t [x]).2.out.length = t.out.length + 1 := by simp [addF]
        rw [el] at ih
        refine ⟨ih.1, ih.2.1, fun h => ?_⟩
        obtain ⟨a1, ⟨E, a2⟩, a3, a4, a5, a6⟩ := ih.2.2 h
        refine ⟨a1, ⟨E, a2⟩, a3, a4, by rw [a5]; simp [expand, hx], fun y hy => ?_⟩
        rcases List.mem_cons.1 hy with rfl | hy
        · exact fun h => absurd hx h
        · exact a6 y hy
    · simp only [partsF, rPartsF, if_neg hx]
      obtain ⟨b1, b2, b3⟩ := IH t x.use ht hR hW
      have hgood := polF_good m n t x.use ht
      by_cases hz : (polF m n t x.use).1 = 0
      · rw [if_pos hz, if_pos (b1 ▸ hz)]
        obtain ⟨c1, ⟨E, c2⟩, c3, c4, c5⟩ := b3 hz
        have hg := hgood hz
        have ih := partsSim IH r (polF m n t x.use).2 b (rout ++ (refF l n' (W.map (·.1)) t.out.length x.use).1.1) hg.1 c1 (by rw [hg.2.1, hW]) (by rw [c3, ho]; simp)
        rw [← c4] at ih
        refine ⟨ih.1, ih.2.1, fun h => ?_⟩
        obtain ⟨a1, ⟨E', a2⟩, a3, a4, a5, a6⟩ := ih.2.2 h
        have hl : look (partsF (polF m n) (polF m n t x.use).2 r).2.known x.use = some (refF l n' (W.map (·.1)) t.out.length x.use).1.1 := by rw [a2]; exact look_some_app c5
        refine ⟨a1, ⟨E ++ E', by rw [a2, c2]; simp⟩, a3, a4, ?_, fun y hy => ?_⟩
        · rw [a5]; simp [expand, hx, hl]
        · rcases List.mem_cons.1 hy with rfl | hy
          · exact fun _ => ⟨_, hl⟩
          · exact a6 y hy
      · rw [if_neg hz, if_neg (b1 ▸ hz)]
        exact ⟨b1, fun h => rfl, fun h => absurd h hz⟩
theorem polSim {m : AL (List Part)} {l : List Pol} (hlm : ∀ name, lastOf l name = look m name) : ∀ (n n' : Nat) (s : Fl) (name : ByteArray), s.ok → Rel m s → room m s.within < n → roomR l (s.within.map (·.1)) < n' →
      (polF m n s name).1 = (refF l n' (s.within.map (·.1)) s.out.length name).1.2 ∧ ((refF l n' (s.within.map (·.1)) s.out.length name).1.2 ≠ 0 → (refF l n' (s.within.map (·.1)) s.out.length name).1.1 = []) ∧
      ((polF m n s name).1 = 0 → Rel m (polF m n s name).2 ∧ (∃ E, (polF m n s name).2.known = s.known ++ E) ∧ (polF m n s name).2.out = s.out ++ (refF l n' (s.within.map (·.1)) s.out.length name).1.1 ∧
        (refF l n' (s.within.map (·.1)) s.out.length name).2 = (polF m n s name).2.out.length ∧ look (polF m n s name).2.known name = some (refF l n' (s.within.map (·.1)) s.out.length name).1.1)
  | 0, _, s, name, _, _, h, _ => by omega
  | _ + 1, 0, s, name, _, _, _, h => by omega
  | n + 1, n' + 1, s, name, hs, hR, hn, hn' => by
    cases h1 : fk name m 0 with
    | none =>
      have e1 : lastOf l name = none := by rw [hlm, look_fk name m 0, h1]; rfl
      have e2 : refF l (n' + 1) (s.within.map (·.1)) s.out.length name = (([], 7), s.out.length) := by simp only [refF, e1]
      have e3 : polF m (n + 1) s name = (7, s) := by simp only [polF, h1]
      rw [e2, e3]
      exact ⟨rfl, fun _ => rfl, fun h => by simp at h⟩
    | some ip =>
    obtain ⟨i1, ps⟩ := ip
    have e1 : lastOf l name = some ps := by rw [hlm, look_fk name m 0, h1]; rfl
    cases h2 : fk name s.within 0 with
    | some iw =>
      obtain ⟨i2, w2⟩ := iw
      have e0 : name ∈ s.within.map (·.1) := Classical.byContradiction fun hc => by rw [fk_none.2 hc] at h2; simp at h2
      have e4 : (s.within.map (·.1)).any (· == name) = true := by
        cases h : (s.within.map (·.1)).any (· == name) with
        | true => rfl
        | false => exact absurd e0 (any_eq.1 h)
      have e2 : refF l (n' + 1) (s.within.map (·.1)) s.out.length name = (([], 5), s.out.length) := by simp only [refF, e1, e4]; rfl
      have e3 : polF m (n + 1) s name = (5, s) := by simp only [polF, h1, h2]
      rw [e2, e3]
      exact ⟨rfl, fun _ => rfl, fun h => by simp at h⟩
    | none =>
    have e4 : (s.within.map (·.1)).any (· == name) = false := any_eq.2 (fk_none.1 h2)
    cases h3 : fk name s.known 0 with
    | some ik =>
      obtain ⟨i3, qs⟩ := ik
      have hq : look s.known name = some qs := by rw [look_fk name s.known 0, h3]; rfl
      have e3 : polF m (n + 1) s name = addF s qs := by simp only [polF, h1, h2, h3]
      have hc := goodRef hlm hR.1 name qs hq (n' + 1) (s.within.map (·.1)) (fun k v hk => look_within.1 (hR.2 k v hk)) hn' s.out.length hs.1
      rw [e3]
      by_cases h5 : s.out.length + qs.length > 500
      · have e : (addF s qs).1 = 9 := by simp [addF, addE]; omega
        rw [hc.1 h5, e]
        exact ⟨rfl, fun _ => rfl, fun h => by simp at h⟩
      · have e : (addF s qs).1 = 0 := by simp [addF, addE]; omega
        rw [hc.2 (by omega), e]
        refine ⟨rfl, fun h => absurd rfl h, fun _ => ⟨hR, ⟨[], by simp [addF]⟩, rfl, by simp [addF], hq⟩⟩
    | none =>
    have hk : look s.known name = none := fk_look_none.1 h3
    have e2 : refF l (n' + 1) (s.within.map (·.1)) s.out.length name = rPartsF (refF l n' (s.within.map (·.1) ++ [name])) s.out.length [] ps := by simp only [refF, e1, e4]; rfl
    have e5 : s.within.map (·.1) ++ [name] = (s.within ++ [(name, ())]).map (·.1) := by simp
    have hRt : Rel m { s with within := s.within ++ [(name, ())] } := by
      refine ⟨hR.1, fun k v hkv => ?_⟩
      show look (s.within ++ [(name, ())]) k = none
      rw [look_none_app (hR.2 k v hkv)]
      simp only [look]
      split
      · rename_i he; subst he; rw [hk] at hkv; simp at hkv
      · rfl
    have hsim := partsSim (m := m) (l := l) (n := n) (n' := n') (W := s.within ++ [(name, ())]) (fun t nm ht hRt hW => by
      have := polSim hlm n n' t nm ht hRt (by rw [hW]; have := room_lt h1 h2; omega) (by rw [hW, ← e5]; have := roomR_lt e1 e4; omega)
      rw [hW] at this; exact this) ps { s with within := s.within ++ [(name, ())] } s.out [] hs hRt rfl (by simp)
    have hgood := partsF_good (polF_good m n) ps { s with within := s.within ++ [(name, ())] } hs
    rw [← e5, ← e2] at hsim
    have e3 : polF m (n + 1) s name = (if (partsF (polF m n) { s with within := s.within ++ [(name, ())] } ps).1 = 0 then (0, { within := delK (partsF (polF m n) { s with within := s.within ++ [(name, ())] } ps).2.within name, known := setK (partsF (polF m n) { s with within := s.within ++ [(name, ())] } ps).2.known name ((partsF (polF m n) { s with within := s.within ++ [(name, ())] } ps).2.out.drop s.out.length), out := (partsF (polF m n) { s with within := s.within ++ [(name, ())] } ps).2.out }) else (partsF (polF m n) { s with within := s.within ++ [(name, ())] } ps)) := by simp only [polF, h1, h2, h3]
    rw [e3]
    generalize partsF (polF m n) { s with within := s.within ++ [(name, ())] } ps = p at hsim hgood
    simp only at hsim
    generalize refF l (n' + 1) (s.within.map (·.1)) s.out.length name = q at hsim
    obtain ⟨a1, a2, a3⟩ := hsim
    by_cases hz : p.1 = 0
    · rw [if_pos hz]
      obtain ⟨c1, ⟨E, c2⟩, c3, c4, c5, c6⟩ := a3 hz
      have hg := hgood hz
      have hkn : look p.2.known name = none := by
        cases hc : look p.2.known name with
        | none => rfl
        | some v =>
          have := c1.2 name v hc
          rw [hg.2.1] at this
          rw [look_none_app (fk_look_none.1 h2)] at this
          simp [look] at this
      have hdrop : p.2.out.drop s.out.length = q.1.1 := by rw [c3]; simp
      have hw : delK p.2.within name = s.within := by rw [hg.2.1]; exact delK_last h2
      have hval : q.1.1 = expand p.2.known ps := by rw [c5]; simp
      simp only [hdrop, hw, setK_new hkn]
      refine ⟨by rw [← a1, hz], a2, fun _ => ⟨⟨?_, ?_⟩, ⟨E ++ [(name, q.1.1)], by rw [c2]; simp⟩, c3, c4, ?_⟩⟩
      · show Good m (p.2.known ++ [(name, q.1.1)])
        rw [hval]
        exact .snoc c1.1 (by rw [look_fk name m 0, h1]; rfl) c6 hkn
      · intro k v hkv
        show look s.within k = none
        simp only at hkv
        cases hc : look p.2.known k with
        | some u =>
          have := c1.2 k u hc
          rw [hg.2.1, look_app] at this
          cases h6 : look s.within k with
          | none => rfl
          | some _ => rw [h6] at this; simp at this
        | none =>
          rw [look_none_app hc] at hkv
          simp only [look] at hkv
          split at hkv
          · rename_i he; subst he; exact fk_look_none.1 h2
          · simp at hkv
      · rw [look_none_app hkn]; simp [look]
    · rw [if_neg hz]
      exact ⟨a1, a2, fun h => absurd h hz⟩
end Go.Proofs.Ytfbocpbeogkapaa
