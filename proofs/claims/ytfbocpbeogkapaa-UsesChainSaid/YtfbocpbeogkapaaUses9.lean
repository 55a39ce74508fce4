/- A part of a proof: functions of the program, walked over the abstract machine. -/
import Derived.Test.YtfbocpbeogkapaaUses8
set_option linter.unusedVariables false
set_option linter.unusedSimpArgs false
namespace Go.Proofs.Ytfbocpbeogkapaa
open Go Go.Am Go.Proofs
attribute [local irreducible] W WL DL WO RoundEnd
set_option maxRecDepth 10000
set_option maxHeartbeats 4000000
/-- the last of a name -/
def atF (name : ByteArray) : Int → Int → List Pol → Int
  | a, _, [] => a
  | a, j, x :: r => atF name (if x.name = name then j else a) (j + 1) r
/-- the policy of a name: its parts -/
def lastOf (l : List Pol) (name : ByteArray) : Option (List Part) :=
  match l with
  | [] => none
  | x :: r => match lastOf r name with
    | some p => some p
    | none => if x.name = name then some x.parts else none
theorem atF_last (name : ByteArray) : ∀ (r : List Pol) (a j : Int), atF name a j r = a ∧ lastOf r name = none ∨ ∃ (i : Nat) (p : Pol), atF name a j r = j + i ∧ r[i]? = some p ∧ lastOf r name = some p.parts
  | [], a, j => .inl ⟨rfl, rfl⟩
  | x :: r, a, j => by
    rcases atF_last name r (if x.name = name then j else a) (j + 1) with ⟨h1, h2⟩ | ⟨i, p, h1, h2, h3⟩
    · by_cases hx : x.name = name
      · refine .inr ⟨0, x, ?_, rfl, by simp [lastOf, h2, hx]⟩
        show atF name (if x.name = name then j else a) (j + 1) r = _
        rw [h1, if_pos hx]; simp
      · exact .inl ⟨by show atF name (if x.name = name then j else a) (j + 1) r = a; rw [h1, if_neg hx], by simp [lastOf, h2, hx]⟩
    · exact .inr ⟨i + 1, p, by simp only [atF, h1]; omega, by simpa using h2, by simp [lastOf, h3]⟩
/-- the document's way, in Lean; c: how many parts so far; n: how deep at most -/
def rPartsF (g : Nat → ByteArray → (List Part × Int) × Nat) : Nat → List Part → List Part → (List Part × Int) × Nat
  | c, out, [] => ((out, 0), c)
  | c, out, x :: r =>
    if x.use = ⟨#[]⟩ then
      if c + 1 > 500 then (([], 9), c + 1) else rPartsF g (c + 1) (out ++ [x]) r
    else if (g c x.use).1.2 = 0 then rPartsF g (g c x.use).2 (out ++ (g c x.use).1.1) r else (([], (g c x.use).1.2), (g c x.use).2)
def refF (l : List Pol) : Nat → List ByteArray → Nat → ByteArray → (List Part × Int) × Nat
  | 0, _, c, _ => (([], 0), c)
  | n + 1, op, c, name =>
    match lastOf l name with
    | none => (([], 7), c)
    | some ps => if op.any (· == name) then (([], 5), c) else rPartsF (refF l n (op ++ [name])) c [] ps
theorem rParts_good {g : Nat → ByteArray → (List Part × Int) × Nat} (hg : ∀ c s, c ≤ 500 → (g c s).1.2 = 0 → (g c s).1.1.length + c ≤ (g c s).2 ∧ (g c s).2 ≤ 500) :
    ∀ (ps : List Part) (c : Nat) (out : List Part), c ≤ 500 → (rPartsF g c out ps).1.2 = 0 → (rPartsF g c out ps).1.1.length + c ≤ (rPartsF g c out ps).2 + out.length ∧ (rPartsF g c out ps).2 ≤ 500
  | [], c, out, h, _ => ⟨by simp only [rPartsF]; omega, h⟩
  | x :: r, c, out, h, h0 => by
    simp only [rPartsF] at h0 ⊢
    by_cases hx : x.use = ⟨#[]⟩
    · simp only [if_pos hx] at h0 ⊢
      by_cases hc : c + 1 > 500
      · simp only [if_pos hc] at h0; simp at h0
      · simp only [if_neg hc] at h0 ⊢
        have := rParts_good hg r (c + 1) (out ++ [x]) (by omega) h0
        simp only [List.length_append, List.length_cons, List.length_nil] at this
        omega
    · simp only [if_neg hx] at h0 ⊢
      by_cases hz : (g c x.use).1.2 = 0
      · simp only [if_pos hz] at h0 ⊢
        have h1 := hg c x.use h hz
        have := rParts_good hg r (g c x.use).2 (out ++ (g c x.use).1.1) h1.2 h0
        simp only [List.length_append] at this
        omega
      · simp only [if_neg hz] at h0; exact absurd h0 hz
theorem refF_good (l : List Pol) : ∀ (n : Nat) (op : List ByteArray) (c : Nat) (name : ByteArray), c ≤ 500 → (refF l n op c name).1.2 = 0 → (refF l n op c name).1.1.length + c ≤ (refF l n op c name).2 ∧ (refF l n op c name).2 ≤ 500
  | 0, op, c, name, h, _ => ⟨by simp [refF], h⟩
  | n + 1, op, c, name, h, h0 => by
    simp only [refF] at h0 ⊢
    split at h0
    · simp at h0
    · split at h0
      · simp at h0
      · rename_i hn
        rw [if_neg hn]
        have := rParts_good (refF_good l n (op ++ [name])) _ c [] h h0
        simpa using this
/-- how many policies are not open -/
def roomR (l : List Pol) (op : List ByteArray) : Nat := (l.filter fun p => !op.any (· == p.name)).length
theorem lastOf_mem {name : ByteArray} : ∀ {l : List Pol} {ps : List Part}, lastOf l name = some ps → ∃ p ∈ l, p.name = name ∧ p.parts = ps
  | [], ps, h => by simp [lastOf] at h
  | x :: r, ps, h => by
    simp only [lastOf] at h
    split at h
    · rename_i q hq
      obtain ⟨p, h1, h2⟩ := lastOf_mem hq
      injection h with h; subst h
      exact ⟨p, by simp [h1], h2⟩
    · split at h
      · rename_i hx; injection h with h; exact ⟨x, by simp, hx, h⟩
      · simp at h
theorem roomR_lt {l : List Pol} {op : List ByteArray} {name : ByteArray} {ps : List Part} (h1 : lastOf l name = some ps) (h2 : op.any (· == name) = false) : roomR l (op ++ [name]) < roomR l op := by
  obtain ⟨p, hp, hn, _⟩ := lastOf_mem h1
  have key : ∀ q : Pol, (!(op ++ [name]).any (· == q.name)) = (!(name == q.name) && !op.any (· == q.name)) := by
    intro q; simp [Bool.and_comm]
  simp only [roomR, key, ← List.filter_filter]
  rw [List.length_filter_lt_length_iff_exists]
  refine ⟨p, List.mem_filter.2 ⟨hp, by rw [hn, h2]; rfl⟩, by rw [hn]; simp [ba_beq]⟩
theorem refR (l : List Pol) (hl : l.length ≤ 100) (hm : ∀ p ∈ l, p.parts.length * 56 ≤ 2 ^ 47) : ∀ (n : Nat) (op : List ByteArray) (c : Nat) (name : ByteArray), c ≤ 500 → roomR l op < n → op.length + n ≤ 200 →
    Am.Spec Try.prog 28 [.one (.ptr 0 0), lst Pol.row l, str name, lst strow op] [.var [.d (.sc (.int .i64 c))]]
      (fun x s => x = .tup [.one (.d (.list ((refF l n op c name).1.1.map Part.row))), .one (.d (.sc (.int .i64 (refF l n op c name).1.2)))] ∧ s = [.var [.d (.sc (.int .i64 (refF l n op c name).2))]]) := by
  intro n
  induction n with
  | zero => intro op c name _ h; omega
  | succ n IH =>
  intro op c name hc hn ho
  have hin := inR op name (by omega)
  refine Spec.body (C := cx [(12, false), (37, false)] 94) fits (fn := Try.f28) Try.func28 rfl (by decide) (by decide) (gI ?_)
  repeat' (first
    | ((first | refine gC fits mixed ?_ | refine gC0 fits mixed ?_ | refine gO fits mixed ?_ | refine gR fits mixed ?_); (conv => whnf); first | (refine ⟨fun hb => ?_, fun hb => ?_⟩ <;> try first | (simp only [Bool.not_true, Bool.not_false, Bool.true_eq_false, Bool.false_eq_true, reduceCtorEq] at hb; done) | (simp only [decide_eq_true_eq, decide_eq_false_iff_not, beq_iff_eq, beq_eq_false_iff_ne, bne_iff_ne, bne_eq_false_iff_eq, ne_eq, List.length_map, List.length_cons, List.length_nil, List.length_append, Bool.not_eq_true', Bool.not_eq_false'] at hb; exfalso; omega) | (exfalso; simp [ba_beq, IntKind.wrap, IntKind.bits, IntKind.signed] at hb; done)) | (show W _ _ _ _ _) | (show ∀ k, WL _ _ _ k _ _ _) | (show ∀ k, DL _ _ _ k _ _ _ _) | (show RoundEnd _ _ _ _ _) | refine fR ?_ | (show _ ∧ Go.Am.Fin _ _ _ _ _ _))
    | (show ∀ k, WL _ _ _ k _ _ _; first | refine fun k => lSA fits (oW ?_ _) | refine fun k => lL fits (oW ?_ _) | refine fun k => lQ fits (oW ?_ _) | refine fun k => lX fits (oW ?_ _) | refine fun k => lXa fits (oW ?_ _) | refine fun k => lK fits (oW ?_ _) | refine fun k => lKa fits (oW ?_ _) | refine fun k => lLk fits (oW ?_ _) | refine fun k => lUp fits (oW ?_ _) | refine fun k => lDel fits (oW ?_ _) | refine fun k => lSt fits (oW ?_ _) | refine fun k => lLU fits (oW ?_ _) | refine fun k => lM fits (oW ?_ _) | refine fun k => lA fits (oW ?_ _) | refine fun k => lA0 fits (oW ?_ _) | refine fun k => lA1 fits (oW ?_ _) | refine fun k => lMk fits (oW ?_ _) | refine fun k => lW fits (oW ?_ _)))
  refine wLoop [0, 1, 2, 3, 10, 11] 1 (l.length + 1) ?_
  refine (fun key => key l [] _ _ rfl rfl rfl :
    (∀ (rest done : List Pol) (a j : Int), l = done ++ rest → j = done.length → atF name (-1) 0 l = atF name a j rest →
    WR2 _ _ _ _ _ (rest.length + 1) [(0, .one (.ptr 0 0)), (1, lst Pol.row l), (2, str name), (3, lst strow op), (10, int .i64 a), (11, int .i64 j)] [.var [.d (.sc (.int .i64 c))]]) → _) ?_
  intro rest
  induction rest with
  | cons x rest ih =>
    intro done a j hl1 hj ha
    have hlen : l.length = done.length + (rest.length + 1) := by rw [hl1]; simp
    obtain ⟨xn, xp⟩ := x
    refine wR (gI ?_)
    repeat' (first
    | ((first | refine gC fits mixed ?_ | refine gC0 fits mixed ?_ | refine gO fits mixed ?_ | refine gR fits mixed ?_); (conv => whnf); first | (refine ⟨fun hb => ?_, fun hb => ?_⟩ <;> try first | (simp only [Bool.not_true, Bool.not_false, Bool.true_eq_false, Bool.false_eq_true, reduceCtorEq] at hb; done) | (simp only [decide_eq_true_eq, decide_eq_false_iff_not, beq_iff_eq, beq_eq_false_iff_ne, bne_iff_ne, bne_eq_false_iff_eq, ne_eq, List.length_map, List.length_cons, List.length_nil, List.length_append, Bool.not_eq_true', Bool.not_eq_false'] at hb; exfalso; omega) | (exfalso; simp [ba_beq, IntKind.wrap, IntKind.bits, IntKind.signed] at hb; done)) | (show W _ _ _ _ _) | (show ∀ k, WL _ _ _ k _ _ _) | (show ∀ k, DL _ _ _ k _ _ _ _) | (show RoundEnd _ _ _ _ _) | refine fR ?_ | (show _ ∧ Go.Am.Fin _ _ _ _ _ _))
    | (show ∀ k, WL _ _ _ k _ _ _; first | refine fun k => lSA fits (oW ?_ _) | refine fun k => lL fits (oW ?_ _) | refine fun k => lQ fits (oW ?_ _) | refine fun k => lX fits (oW ?_ _) | refine fun k => lXa fits (oW ?_ _) | refine fun k => lK fits (oW ?_ _) | refine fun k => lKa fits (oW ?_ _) | refine fun k => lLk fits (oW ?_ _) | refine fun k => lUp fits (oW ?_ _) | refine fun k => lDel fits (oW ?_ _) | refine fun k => lSt fits (oW ?_ _) | refine fun k => lLU fits (oW ?_ _) | refine fun k => lM fits (oW ?_ _) | refine fun k => lA fits (oW ?_ _) | refine fun k => lA0 fits (oW ?_ _) | refine fun k => lA1 fits (oW ?_ _) | refine fun k => lMk fits (oW ?_ _) | refine fun k => lW fits (oW ?_ _)))
    · have hx : xn = name := by simpa [ba_beq] using hb
      refine rE (ih (done ++ [⟨xn, xp⟩]) _ _ (by rw [hl1]; simp) ?_ ?_)
      · rw [wrap_ok (by omega) (by omega)]; simp [hj]
      · rw [ha]; show atF name (if xn = name then j else a) (j + 1) rest = _; rw [if_pos hx, wrap_ok (by omega) (by omega)]
    · have hx : ¬ xn = name := by simpa [ba_beq] using hb
      refine rE (ih (done ++ [⟨xn, xp⟩]) _ _ (by rw [hl1]; simp) ?_ ?_)
      · rw [wrap_ok (by omega) (by omega)]; simp [hj]
      · rw [ha]; show atF name (if xn = name then j else a) (j + 1) rest = _; rw [if_neg hx, wrap_ok (by omega) (by omega)]
  | nil =>
    intro done a j hl1 hj ha
    have hlen : l.length = done.length := by rw [hl1]; simp
    simp only [atF] at ha
    rcases atF_last name l (-1) 0 with ⟨h1, h2⟩ | ⟨i, ⟨pn, ps⟩, h1, h2, h3⟩
    · have ha1 : a = -1 := by rw [← ha, h1]
      subst ha1
      refine wR (gI ?_)
      repeat' (first
    | ((first | refine gC fits mixed ?_ | refine gC0 fits mixed ?_ | refine gO fits mixed ?_ | refine gR fits mixed ?_); (conv => whnf); first | (refine ⟨fun hb => ?_, fun hb => ?_⟩ <;> try first | (simp only [Bool.not_true, Bool.not_false, Bool.true_eq_false, Bool.false_eq_true, reduceCtorEq] at hb; done) | (simp only [decide_eq_true_eq, decide_eq_false_iff_not, beq_iff_eq, beq_eq_false_iff_ne, bne_iff_ne, bne_eq_false_iff_eq, ne_eq, List.length_map, List.length_cons, List.length_nil, List.length_append, Bool.not_eq_true', Bool.not_eq_false'] at hb; exfalso; omega) | (exfalso; simp [ba_beq, IntKind.wrap, IntKind.bits, IntKind.signed] at hb; done)) | (show W _ _ _ _ _) | (show ∀ k, WL _ _ _ k _ _ _) | (show ∀ k, DL _ _ _ k _ _ _ _) | (show RoundEnd _ _ _ _ _) | refine fR ?_ | (show _ ∧ Go.Am.Fin _ _ _ _ _ _))
    | (show ∀ k, WL _ _ _ k _ _ _; first | refine fun k => lSA fits (oW ?_ _) | refine fun k => lL fits (oW ?_ _) | refine fun k => lQ fits (oW ?_ _) | refine fun k => lX fits (oW ?_ _) | refine fun k => lXa fits (oW ?_ _) | refine fun k => lK fits (oW ?_ _) | refine fun k => lKa fits (oW ?_ _) | refine fun k => lLk fits (oW ?_ _) | refine fun k => lUp fits (oW ?_ _) | refine fun k => lDel fits (oW ?_ _) | refine fun k => lSt fits (oW ?_ _) | refine fun k => lLU fits (oW ?_ _) | refine fun k => lM fits (oW ?_ _) | refine fun k => lA fits (oW ?_ _) | refine fun k => lA0 fits (oW ?_ _) | refine fun k => lA1 fits (oW ?_ _) | refine fun k => lMk fits (oW ?_ _) | refine fun k => lW fits (oW ?_ _)))
      exact ⟨by simp only [refF, h2]; rfl, by simp only [refF, h2]⟩
    · have ha1 : a = i := by rw [← ha, h1]; simp
      subst ha1
      have hi := (List.getElem?_eq_some_iff.1 h2).1
      refine wR (gI ?_)
      repeat' (first
    | ((first | refine gC fits mixed ?_ | refine gC0 fits mixed ?_ | refine gO fits mixed ?_ | refine gR fits mixed ?_); (conv => whnf); first | (refine ⟨fun hb => ?_, fun hb => ?_⟩ <;> try first | (simp only [Bool.not_true, Bool.not_false, Bool.true_eq_false, Bool.false_eq_true, reduceCtorEq] at hb; done) | (simp only [decide_eq_true_eq, decide_eq_false_iff_not, beq_iff_eq, beq_eq_false_iff_ne, bne_iff_ne, bne_eq_false_iff_eq, ne_eq, List.length_map, List.length_cons, List.length_nil, List.length_append, Bool.not_eq_true', Bool.not_eq_false'] at hb; exfalso; omega) | (exfalso; simp [ba_beq, IntKind.wrap, IntKind.bits, IntKind.signed] at hb; done)) | (show W _ _ _ _ _) | (show ∀ k, WL _ _ _ k _ _ _) | (show ∀ k, DL _ _ _ k _ _ _ _) | (show RoundEnd _ _ _ _ _) | refine fR ?_ | (show _ ∧ Go.Am.Fin _ _ _ _ _ _))
    | (show ∀ k, WL _ _ _ k _ _ _; first | (refine fun k => lCB (hin) (fun h9 => oW ?_ _) (fun h9 => oW ?_ _)) | refine fun k => lSA fits (oW ?_ _) | refine fun k => lL fits (oW ?_ _) | refine fun k => lQ fits (oW ?_ _) | refine fun k => lX fits (oW ?_ _) | refine fun k => lXa fits (oW ?_ _) | refine fun k => lK fits (oW ?_ _) | refine fun k => lKa fits (oW ?_ _) | refine fun k => lLk fits (oW ?_ _) | refine fun k => lUp fits (oW ?_ _) | refine fun k => lDel fits (oW ?_ _) | refine fun k => lSt fits (oW ?_ _) | refine fun k => lLU fits (oW ?_ _) | refine fun k => lM fits (oW ?_ _) | refine fun k => lA fits (oW ?_ _) | refine fun k => lA0 fits (oW ?_ _) | refine fun k => lA1 fits (oW ?_ _) | refine fun k => lMk fits (oW ?_ _) | refine fun k => lW fits (oW ?_ _)))
      · exact ⟨by simp only [refF, h3, h9]; rfl, by simp only [refF, h3, h9]; rfl⟩
      have hpsl : ps.length * 56 ≤ 2 ^ 47 := by
        have := hm ⟨pn, ps⟩ (List.mem_of_getElem? h2)
        simpa using this
      have hroom := roomR_lt h3 h9
      have hres : refF l (n + 1) op c name = rPartsF (refF l n (op ++ [name])) c [] ps := by simp only [refF, h3, h9]; rfl
      rw [hres]
      refine wLoop [0, 1, 3, 10, 12, 13] 3 (ps.length + 1) ?_
      refine (fun key => key ps [] _ c [] rfl rfl rfl hc (Nat.zero_le _) :
        (∀ (rest done : List Part) (j : Int) (c' : Nat) (out : List Part), ps = done ++ rest → j = done.length → rPartsF (refF l n (op ++ [name])) c [] ps = rPartsF (refF l n (op ++ [name])) c' out rest → c' ≤ 500 → out.length ≤ c' →
        WR2 _ _ _ _ _ (rest.length + 1) [(0, .one (.ptr 0 0)), (1, lst Pol.row l), (3, .one (.arr 1 0 (op.map strow ++ [strow name]).length)), (10, int .i64 i), (12, .one (.arr 2 0 (out.map Part.row).length)), (13, int .i64 j)]
          [.var [.d (.sc (.int .i64 c'))], .arr 0 false 1 (op.map strow ++ [strow name]), .arr 0 false 4 (out.map Part.row)]) → _) ?_
      intro rest
      induction rest with
      | nil =>
        intro done j c' out hl1 hj hr hc' hout
        have hlen : ps.length = done.length := by rw [hl1]; simp
        refine wR (gI ?_)
        repeat' (first
    | ((first | refine gC fits mixed ?_ | refine gC0 fits mixed ?_ | refine gO fits mixed ?_ | refine gR fits mixed ?_); (conv => whnf); first | (refine ⟨fun hb => ?_, fun hb => ?_⟩ <;> try first | (simp only [Bool.not_true, Bool.not_false, Bool.true_eq_false, Bool.false_eq_true, reduceCtorEq] at hb; done) | (simp only [decide_eq_true_eq, decide_eq_false_iff_not, beq_iff_eq, beq_eq_false_iff_ne, bne_iff_ne, bne_eq_false_iff_eq, ne_eq, List.length_map, List.length_cons, List.length_nil, List.length_append, Bool.not_eq_true', Bool.not_eq_false'] at hb; exfalso; omega) | (exfalso; simp [ba_beq, IntKind.wrap, IntKind.bits, IntKind.signed] at hb; done)) | (show W _ _ _ _ _) | (show ∀ k, WL _ _ _ k _ _ _) | (show ∀ k, DL _ _ _ k _ _ _ _) | (show RoundEnd _ _ _ _ _) | refine fR ?_ | (show _ ∧ Go.Am.Fin _ _ _ _ _ _))
    | (show ∀ k, WL _ _ _ k _ _ _; first | refine fun k => lSA fits (oW ?_ _) | refine fun k => lL fits (oW ?_ _) | refine fun k => lQ fits (oW ?_ _) | refine fun k => lX fits (oW ?_ _) | refine fun k => lXa fits (oW ?_ _) | refine fun k => lK fits (oW ?_ _) | refine fun k => lKa fits (oW ?_ _) | refine fun k => lLk fits (oW ?_ _) | refine fun k => lUp fits (oW ?_ _) | refine fun k => lDel fits (oW ?_ _) | refine fun k => lSt fits (oW ?_ _) | refine fun k => lLU fits (oW ?_ _) | refine fun k => lM fits (oW ?_ _) | refine fun k => lA fits (oW ?_ _) | refine fun k => lA0 fits (oW ?_ _) | refine fun k => lA1 fits (oW ?_ _) | refine fun k => lMk fits (oW ?_ _) | refine fun k => lW fits (oW ?_ _)))
        rw [hr]
        exact ⟨rfl, rfl⟩
      | cons x rest ih =>
        intro done j c' out hl1 hj hr hc' hout
        have hlen : ps.length = done.length + (rest.length + 1) := by rw [hl1]; simp
        obtain ⟨xu, ⟨xk, xd⟩, xr⟩ := x
        have hq := IH (op ++ [name]) c' xu hc' (by omega) (by simp; omega)
        have hqg := refF_good l n (op ++ [name]) c' xu hc'
        have hr2 : rPartsF (refF l n (op ++ [name])) c' out (⟨xu, ⟨xk, xd⟩, xr⟩ :: rest) = (if xu = ⟨#[]⟩ then
          if c' + 1 > 500 then (([], 9), c' + 1) else rPartsF (refF l n (op ++ [name])) (c' + 1) (out ++ [⟨xu, ⟨xk, xd⟩, xr⟩]) rest
          else if (refF l n (op ++ [name]) c' xu).1.2 = 0 then rPartsF (refF l n (op ++ [name])) (refF l n (op ++ [name]) c' xu).2 (out ++ (refF l n (op ++ [name]) c' xu).1.1) rest else (([], (refF l n (op ++ [name]) c' xu).1.2), (refF l n (op ++ [name]) c' xu).2)) := rfl
        rw [hr2] at hr
        generalize refF l n (op ++ [name]) c' xu = q at hq hqg hr hr2
        have e1 : lst strow (op ++ [name]) = .one (.d (.list (op.map strow ++ [strow name]))) := by simp [lst]
        rw [e1] at hq
        refine wR (gI ?_)
        repeat' (first
    | ((first | refine gC fits mixed ?_ | refine gC0 fits mixed ?_ | refine gO fits mixed ?_ | refine gR fits mixed ?_); (conv => whnf); first | (refine ⟨fun hb => ?_, fun hb => ?_⟩ <;> try first | (simp only [Bool.not_true, Bool.not_false, Bool.true_eq_false, Bool.false_eq_true, reduceCtorEq] at hb; done) | (simp only [decide_eq_true_eq, decide_eq_false_iff_not, beq_iff_eq, beq_eq_false_iff_ne, bne_iff_ne, bne_eq_false_iff_eq, ne_eq, List.length_map, List.length_cons, List.length_nil, List.length_append, Bool.not_eq_true', Bool.not_eq_false'] at hb; exfalso; omega) | (exfalso; simp [ba_beq, IntKind.wrap, IntKind.bits, IntKind.signed] at hb; done)) | (show W _ _ _ _ _) | (show ∀ k, WL _ _ _ k _ _ _) | (show ∀ k, DL _ _ _ k _ _ _ _) | (show RoundEnd _ _ _ _ _) | refine fR ?_ | (show _ ∧ Go.Am.Fin _ _ _ _ _ _))
    | (show ∀ k, WL _ _ _ k _ _ _; first | refine fun k => WL.crpU [0] [.var [.d (.sc (.int .i64 c'))]] _ _ hq (oW ?_ _) | refine fun k => lA fits (oW ?_ _) (hsm := by have hz : q.1.2 = 0 := (by simpa using hb); have hz2 := hqg hz; simp only [most, List.length_map]; omega) | refine fun k => lSA fits (oW ?_ _) | refine fun k => lL fits (oW ?_ _) | refine fun k => lQ fits (oW ?_ _) | refine fun k => lX fits (oW ?_ _) | refine fun k => lXa fits (oW ?_ _) | refine fun k => lK fits (oW ?_ _) | refine fun k => lKa fits (oW ?_ _) | refine fun k => lLk fits (oW ?_ _) | refine fun k => lUp fits (oW ?_ _) | refine fun k => lDel fits (oW ?_ _) | refine fun k => lSt fits (oW ?_ _) | refine fun k => lLU fits (oW ?_ _) | refine fun k => lM fits (oW ?_ _) | refine fun k => lA fits (oW ?_ _) | refine fun k => lA0 fits (oW ?_ _) | refine fun k => lA1 fits (oW ?_ _) | refine fun k => lMk fits (oW ?_ _) | refine fun k => lW fits (oW ?_ _)))
        · have hx : xu = ⟨#[]⟩ := by
            have h : (xu == ⟨#[]⟩) = true := by assumption
            simpa [ba_beq] using h
          have hc9 : c' + 1 > 500 := by
            rw [wrap_ok (by omega) (by omega)] at hb; simp at hb; omega
          rw [if_pos hx, if_pos hc9] at hr
          rw [hr]
          exact ⟨rfl, by rw [wrap_ok (by omega) (by omega)]; rfl⟩
        · have hx : xu = ⟨#[]⟩ := by
            have h : (xu == ⟨#[]⟩) = true := by assumption
            simpa [ba_beq] using h
          have hc9 : ¬ c' + 1 > 500 := by
            rw [wrap_ok (by omega) (by omega)] at hb; simp at hb; omega
          rw [if_pos hx, if_neg hc9] at hr
          have g := ih (done ++ [⟨xu, ⟨xk, xd⟩, xr⟩]) (IntKind.wrap .i64 (j + 1)) (c' + 1) (out ++ [⟨xu, ⟨xk, xd⟩, xr⟩]) (by rw [hl1]; simp) (by rw [wrap_ok (by omega) (by omega)]; simp [hj]) hr (by omega) (by simp; omega)
          rw [List.map_append] at g
          have e2 : ((c' + 1 : Nat) : Int) = IntKind.wrap .i64 ((c' : Int) + 1) := by rw [wrap_ok (by omega) (by omega)]; rfl
          rw [e2] at g
          exact rE g
        · have hx : ¬ xu = ⟨#[]⟩ := by
            have h : (xu == ⟨#[]⟩) = false := by assumption
            simpa [ba_beq] using h
          have hz : ¬ q.1.2 = 0 := by simpa using hb
          rw [if_neg hx, if_neg hz] at hr
          rw [hr]
          exact ⟨rfl, rfl⟩
        · have hx : ¬ xu = ⟨#[]⟩ := by
            have h : (xu == ⟨#[]⟩) = false := by assumption
            simpa [ba_beq] using h
          have hz : q.1.2 = 0 := by simpa using hb
          rw [if_neg hx, if_pos hz] at hr
          have hq2 := hqg hz
          have g := ih (done ++ [⟨xu, ⟨xk, xd⟩, xr⟩]) (IntKind.wrap .i64 (j + 1)) q.2 (out ++ q.1.1) (by rw [hl1]; simp) (by rw [wrap_ok (by omega) (by omega)]; simp [hj]) hr hq2.2 (by simp; omega)
          rw [List.map_append] at g
          exact rE g
end Go.Proofs.Ytfbocpbeogkapaa
