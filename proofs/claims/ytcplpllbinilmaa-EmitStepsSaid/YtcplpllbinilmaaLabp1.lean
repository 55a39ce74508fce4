/- Labels: the linker lets in the rows that the document lets in, and its jumps lead where the document's do. -/
import Derived.Test.YtcplpllbinilmaaLab12
import Derived.Test.YtcplpllbinilmaaLab7
set_option linter.unusedVariables false
set_option linter.unusedSimpArgs false
namespace Go.Proofs.Ytcplpllbinilmaa
open Go Go.Am Go.Proofs
set_option maxRecDepth 10000
set_option maxHeartbeats 4000000
set_option linter.unusedVariables false
set_option linter.unusedSimpArgs false
/-- the first symbol of a label -/
def firstF (k : Int) : List Sym → Int → Option Int
  | [], _ => none
  | x :: r, j => bif x.label == k then some j else firstF k r (j + 1)
def lkI (k : Int) : LM → Option Int
  | [] => none
  | (k', v) :: r => bif k == k' then some v else lkI k r
theorem fk_lk (k : Int) : ∀ (m : LM) (i : Nat), (fkI k m i).map (·.2) = lkI k m
  | [], i => rfl
  | (k', v) :: r, i => by
    rw [fkI, lkI]
    cases k == k' with
    | true => rfl
    | false => exact fk_lk k r (i + 1)
theorem fk_some (k : Int) (m : LM) : (fkI k m 0).isSome = (lkI k m).isSome := by
  rw [← fk_lk k m 0]; cases fkI k m 0 <;> rfl
theorem lk_append (k k' v : Int) : ∀ m : LM, lkI k (m ++ [(k', v)]) = match lkI k m with
    | some n => some n
    | none => bif k == k' then some v else none
  | [] => by show (bif k == k' then some v else none) = _; rfl
  | (a, b) :: r => by
    show (bif k == a then some b else lkI k (r ++ [(k', v)])) = _
    rw [lk_append k k' v r, lkI]
    cases k == a <;> rfl
theorem first_append (k : Int) (x : Sym) : ∀ (l : List Sym) (j : Int), firstF k (l ++ [x]) j = match firstF k l j with
    | some n => some n
    | none => bif x.label == k then some (j + l.length) else none
  | [], j => by show (bif x.label == k then some j else none) = _; simp [firstF]
  | y :: r, j => by
    show (bif y.label == k then some j else firstF k (r ++ [x]) (j + 1)) = _
    rw [first_append k x r (j + 1), firstF]
    cases y.label == k with
    | true => rfl
    | false =>
      simp only [cond_false, List.length_cons]
      rw [show j + 1 + (r.length : Int) = j + ((r.length + 1 : Nat) : Int) from by omega]
theorem first_any (k : Int) : ∀ (l : List Sym) (j : Int), (firstF k l j).isSome = l.any fun y => y.label == k
  | [], j => rfl
  | y :: r, j => by
    rw [firstF, List.any_cons]
    cases y.label == k with
    | true => rfl
    | false => exact first_any k r (j + 1)
/-- what the map of labels knows -/
def mapOk (m : LM) (done : List Sym) : Prop := ∀ k : Int, lkI k m = bif decide (k > 0) then firstF k done 0 else none
def labG : List Sym → List Sym → Bool
  | _, [] => true
  | done, x :: r => !(decide (x.label < 0) || dupF x.label done) && labG (done ++ [x]) r
theorem dup_lk {m : LM} {done : List Sym} (h : mapOk m done) (k : Int) : (lkI k m).isSome = dupF k done := by
  rw [h k]
  unfold dupF
  cases hk : decide (k > 0) with
  | true => simp only [cond_true, Bool.true_and]; exact first_any k done 0
  | false => simp
theorem lab_spec : ∀ (r done : List Sym) (m : LM), mapOk m done → (labF m r done.length).1 = labG done r ∧ ((labF m r done.length).1 = true → mapOk (labF m r done.length).2 (done ++ r))
  | [], done, m, h => by
    refine ⟨rfl, fun _ => ?_⟩
    rw [List.append_nil]; exact h
  | x :: r, done, m, h => by
    rw [labF, labG, fk_some, dup_lk h]
    cases hb : (decide (x.label < 0) || dupF x.label done) with
    | true => exact ⟨rfl, fun h => by cases h⟩
    | false =>
      simp only [cond_false, Bool.not_false, Bool.true_and]
      have hm : mapOk (bif decide (x.label > 0) then m ++ [(x.label, (done.length : Int))] else m) (done ++ [x]) := by
        intro k
        rw [first_append]
        cases hk : decide (x.label > 0) with
        | true =>
          simp only [cond_true]
          rw [lk_append, h k]
          cases hk2 : decide (k > 0) with
          | true =>
            simp only [cond_true]
            rw [show (k == x.label) = (x.label == k) from by rw [Bool.eq_iff_iff, beq_iff_eq, beq_iff_eq]; exact eq_comm, Int.zero_add]
          | false =>
            simp only [cond_false]
            have : (k == x.label) = false := by
              rw [decide_eq_true_eq] at hk; rw [decide_eq_false_iff_not] at hk2
              rw [beq_eq_false_iff_ne]; omega
            rw [this]; rfl
        | false =>
          simp only [cond_false]
          rw [h k]
          cases hk2 : decide (k > 0) with
          | true =>
            simp only [cond_true]
            have : (x.label == k) = false := by
              rw [decide_eq_true_eq] at hk2; rw [decide_eq_false_iff_not] at hk
              rw [beq_eq_false_iff_ne]; omega
            rw [this]
            cases firstF k done 0 <;> rfl
          | false => rfl
      have ih := lab_spec r (done ++ [x]) _ hm
      rw [List.length_append, List.length_cons, List.length_nil, List.append_assoc] at ih
      exact ih
theorem lab0 (l : List Sym) : (labF [] l 0).1 = labG [] l ∧ ((labF [] l 0).1 = true → mapOk (labF [] l 0).2 l) := by
  have := lab_spec l [] [] (fun k => by show none = _; cases decide (k > 0) <;> rfl)
  exact this
/-- no label stands twice -/
theorem labG_at : ∀ (r done : List Sym), labG done r = true → ∀ (n : Nat) (x : Sym), r[n]? = some x → dupF x.label (done ++ r.take n) = false
  | [], _, _, n, x, h => by simp at h
  | y :: r, done, h, 0, x, hx => by
    simp only [List.getElem?_cons_zero, Option.some.injEq] at hx
    subst hx
    rw [labG, Bool.and_eq_true, Bool.not_eq_true', Bool.or_eq_false_iff] at h
    rw [List.take_zero, List.append_nil]; exact h.1.2
  | y :: r, done, h, n + 1, x, hx => by
    rw [labG, Bool.and_eq_true] at h
    have := labG_at r (done ++ [y]) h.2 n x (by simpa using hx)
    rw [List.take_succ_cons]
    simpa using this
theorem drop_one {α : Type} {l : List α} {n : Nat} {x : α} (h : l[n]? = some x) : l.drop n = x :: l.drop (n + 1) := by
  obtain ⟨h1, h2⟩ := List.getElem?_eq_some_iff.1 h
  rw [← h2]; exact List.drop_eq_getElem_cons h1
theorem first_uniq {l : List Sym} (hg : labG [] l = true) {k : Int} (hk : k > 0) {n : Nat} {x : Sym} (hx : l[n]? = some x) (hl : x.label = k) : firstF k l 0 = some (n : Int) := by
  have hd := labG_at l [] hg n x hx
  rw [List.nil_append] at hd
  have h1 : ∀ (u : List Sym) (j : Int), (u.any fun y => y.label == k) = false → firstF k u j = none := by
    intro u j h
    have := first_any k u j
    rw [h] at this
    cases hf : firstF k u j with
    | none => rfl
    | some v => rw [hf] at this; cases this
  have h2 : ∀ (u v : List Sym) (j : Int), firstF k u j = none → firstF k (u ++ v) j = firstF k v (j + u.length) := by
    intro u
    induction u with
    | nil => intro v j _; simp
    | cons y u ih =>
      intro v j h
      rw [firstF] at h
      rw [List.cons_append, firstF]
      cases hy : y.label == k with
      | true => rw [hy] at h; cases h
      | false =>
        rw [hy] at h
        simp only [cond_false] at h ⊢
        rw [ih v (j + 1) h, List.length_cons]
        congr 1; omega
  have hn := (List.getElem?_eq_some_iff.1 hx).1
  have hdec : l = l.take n ++ x :: l.drop (n + 1) := by
    rw [← drop_one hx, List.take_append_drop]
  have hany : ((l.take n).any fun y => y.label == k) = false := by
    unfold dupF at hd
    rw [hl] at hd
    rw [Bool.eq_false_iff]
    intro h
    rw [Bool.eq_false_iff] at hd
    apply hd
    rw [List.any_eq_true] at h ⊢
    obtain ⟨y, hy, h⟩ := h
    exact ⟨y, hy, by rw [h, decide_eq_true hk]; rfl⟩
  have h3 := h2 (l.take n) (x :: l.drop (n + 1)) 0 (h1 _ _ hany)
  rw [← hdec, firstF, hl] at h3
  simp only [beq_self_eq_true, cond_true, List.length_take] at h3
  rw [h3, Nat.min_eq_left (by omega), Int.zero_add]
theorem seek_at (k : Int) : ∀ (u : List Sym) (j : Int), 0 ≤ j → (seekF k u j = -1 ∧ (u.any fun y => y.label == k) = false) ∨ ∃ (n : Nat) (x : Sym), u[n]? = some x ∧ x.label = k ∧ seekF k u j = j + n
  | [], j, _ => .inl ⟨rfl, rfl⟩
  | y :: r, j, hj => by
    rw [seekF, List.any_cons]
    cases hy : y.label == k with
    | true => exact .inr ⟨0, y, rfl, by simpa using hy, by simp⟩
    | false =>
      simp only [Bool.false_eq_true, if_false, Bool.false_or]
      rcases seek_at k r (j + 1) (by omega) with h | ⟨n, x, h1, h2, h3⟩
      · exact .inl h
      · exact .inr ⟨n + 1, x, by simpa using h1, h2, by rw [h3]; omega⟩
/-- where a jump leads, as the linker finds it -/
theorem goes_place {l : List Sym} {m : LM} (hg : labG [] l = true) (hm : mapOk m l) (i : Nat) (t : Int) : (goesF m i t).2 = (bif t == 0 then true else decide (t > 0) && decide (placeF l i t ≥ 0)) ∧ ((goesF m i t).2 = true → (goesF m i t).1 = nextF l i t) := by
  unfold goesF nextF
  cases h0 : t == 0 with
  | true => exact ⟨rfl, fun _ => rfl⟩
  | false =>
    simp only [cond_false, Bool.false_eq_true, if_false]
    have hlk := fk_lk t m 0
    rw [hm t] at hlk
    cases hk : decide (t > 0) with
    | false =>
      rw [hk] at hlk
      simp only [cond_false] at hlk
      cases hf : fkI t m 0 with
      | none => exact ⟨rfl, fun h => by cases h⟩
      | some q => rw [hf] at hlk; cases hlk
    | true =>
      rw [hk] at hlk
      simp only [cond_true] at hlk
      rw [decide_eq_true_eq] at hk
      unfold placeF
      rcases seek_at t (l.drop (i + 1)) ((i + 1 : Nat) : Int) (by omega) with ⟨h1, h2⟩ | ⟨n, x, h1, h2, h3⟩
      · rw [h1]
        simp only [Bool.true_and]
        rw [show decide ((-1 : Int) ≥ 0) = false from rfl]
        cases hf : fkI t m 0 with
        | none => exact ⟨rfl, fun h => by cases h⟩
        | some q =>
          obtain ⟨_, n⟩ := q
          rw [hf] at hlk
          simp only [Option.map_some] at hlk
          have hno : decide (n > (i : Int)) = false := by
            rw [decide_eq_false_iff_not]
            intro hn
            have hs : ∀ (u : List Sym) (j n : Int), 0 ≤ j → firstF t u j = some n → j ≤ n ∧ ∃ x, u[(n - j).toNat]? = some x ∧ x.label = t := by
              intro u
              induction u with
              | nil => intro j n _ h; cases h
              | cons y u ih =>
                intro j n hj h
                rw [firstF] at h
                cases hy : y.label == t with
                | true =>
                  rw [hy] at h
                  simp only [cond_true, Option.some.injEq] at h
                  subst h
                  exact ⟨Int.le_refl _, y, by simp, by simpa using hy⟩
                | false =>
                  rw [hy] at h
                  simp only [cond_false] at h
                  obtain ⟨g1, x, g2, g3⟩ := ih (j + 1) n (by omega) h
                  refine ⟨by omega, x, ?_, g3⟩
                  rw [show (n - j).toNat = (n - (j + 1)).toNat + 1 from by omega, List.getElem?_cons_succ]
                  exact g2
            obtain ⟨g1, x, g2, g3⟩ := hs l 0 n (by omega) hlk.symm
            rw [Bool.eq_false_iff] at h2
            apply h2
            rw [List.any_eq_true]
            refine ⟨x, ?_, by rw [g3, beq_self_eq_true]⟩
            have : (l.drop (i + 1))[(n - 0).toNat - (i + 1)]? = some x := by
              rw [List.getElem?_drop, show i + 1 + ((n - 0).toNat - (i + 1)) = (n - 0).toNat from by omega]
              exact g2
            exact List.mem_of_getElem? this
          exact ⟨hno, fun h => by simp only at h; rw [hno] at h; cases h⟩
      · rw [List.getElem?_drop] at h1
        have hu := first_uniq hg hk h1 h2
        rw [hu] at hlk
        cases hf : fkI t m 0 with
        | none => rw [hf] at hlk; cases hlk
        | some q =>
          obtain ⟨_, v⟩ := q
          rw [hf] at hlk
          simp only [Option.map_some, Option.some.injEq] at hlk
          subst hlk
          rw [h3]
          have e1 : decide (((i + 1 + n : Nat) : Int) > (i : Int)) = true := by rw [decide_eq_true_eq]; omega
          have e2 : decide (((i + 1 : Nat) : Int) + (n : Int) ≥ 0) = true := by rw [decide_eq_true_eq]; omega
          refine ⟨by simp only [e1, e2, Bool.true_and], fun _ => ?_⟩
          simp only; omega
/-- the symbols that the linker lets in -/
theorem sym_good {l : List Sym} {m : LM} (hg : labG [] l = true) (hm : mapOk m l) (i : Nat) (x : Sym) : symF m l.length i x = ((codeOk x.code && !badT l i x && !badR l i x) && (!(((i : Nat) : Int) == (l.length : Int) - 1) || endsF x.code)) := by
  unfold symF badT badR
  rw [(goes_place hg hm i x.t).1, (goes_place hg hm i x.f).1]
  have e5 : x.code == 5 → isJumpF x.code = false := by
    intro h
    rw [beq_iff_eq] at h
    rw [h]; rfl
  have p1 : ∀ t, decide (placeF l i t ≥ 0) = !decide (placeF l i t < 0) := by
    intro t
    rw [Bool.eq_iff_iff, decide_eq_true_eq, Bool.not_eq_true', decide_eq_false_iff_not]; omega
  have p2 : ∀ t : Int, (bif t == 0 then true else decide (t > 0) && !decide (placeF l i t < 0)) = !(decide (t < 0) || (decide (t > 0) && decide (placeF l i t < 0))) := by
    intro t
    rcases Int.lt_trichotomy t 0 with h | h | h
    · have a1 : (t == 0) = false := by rw [beq_eq_false_iff_ne]; omega
      have a2 : decide (t > 0) = false := by rw [decide_eq_false_iff_not]; omega
      have a3 : decide (t < 0) = true := by rw [decide_eq_true_eq]; omega
      rw [a1, a2, a3]; rfl
    · subst h; rfl
    · have a1 : (t == 0) = false := by rw [beq_eq_false_iff_ne]; omega
      have a2 : decide (t > 0) = true := by rw [decide_eq_true_eq]; omega
      have a3 : decide (t < 0) = false := by rw [decide_eq_false_iff_not]; omega
      rw [a1, a2, a3]
      cases decide (placeF l i t < 0) <;> rfl
  rw [p1, p1, p2, p2]
  generalize (decide (x.t < 0) || (decide (x.t > 0) && decide (placeF l i x.t < 0))) = A at *
  generalize (decide (x.f < 0) || (decide (x.f > 0) && decide (placeF l i x.f < 0))) = B at *
  generalize (((i : Nat) : Int) == (l.length : Int) - 1) = L at *
  generalize (x.t == 0) = Z at *
  generalize endsF x.code = E at *
  cases c5 : x.code == 5 with
  | true =>
    have := e5 c5
    rw [this]
    generalize codeOk x.code = K at *
    cases K <;> cases A <;> cases L <;> cases E <;> cases Z <;> rfl
  | false =>
    generalize isJumpF x.code = J at *
    generalize codeOk x.code = K at *
    cases K <;> cases A <;> cases B <;> cases L <;> cases E <;> cases J <;> cases Z <;> rfl
/-- a row is let in -/
theorem goodG {l : List Sym} {m : LM} (hgl : labG [] l = true) (hm : mapOk m l) : ∀ (r done : List Sym), l = done ++ r → labG done r = true → r ≠ [] → (symsF m l.length r done.length = true ↔ goodF l done.length r = true ∧ lastF l = true)
  | [], _, _, _, h => absurd rfl h
  | x :: r, done, hl, hg, _ => by
    rw [labG, Bool.and_eq_true, Bool.not_eq_true', Bool.or_eq_false_iff] at hg
    obtain ⟨⟨g1, g2⟩, g3⟩ := hg
    have hlen : l.length = done.length + (r.length + 1) := by rw [hl]; simp
    rw [symsF, goodF, sym_good hgl hm]
    have hb : badF l done.length x = !(codeOk x.code && !badT l done.length x && !badR l done.length x) := by
      unfold badF
      rw [g1, show l.take done.length = done from by rw [hl]; simp, g2]
      cases codeOk x.code <;> cases badT l done.length x <;> cases badR l done.length x <;> rfl
    rw [hb, Bool.not_not]
    generalize (codeOk x.code && !badT l done.length x && !badR l done.length x) = K
    cases r with
    | nil =>
      have e1 : (((done.length : Nat) : Int) == (l.length : Int) - 1) = true := by rw [beq_iff_eq, hlen]; simp
      have e2 : lastF l = endsF x.code := by
        unfold lastF
        rw [hl, List.getLast?_append]; rfl
      rw [e1, e2]
      simp only [symsF, goodF, Bool.not_true, Bool.false_or, Bool.and_true, Bool.and_eq_true]
    | cons y r =>
      have ih := goodG hgl hm (y :: r) (done ++ [x]) (by rw [hl]; simp) g3 (by simp)
      have e1 : (((done.length : Nat) : Int) == (l.length : Int) - 1) = false := by
        rw [beq_eq_false_iff_ne, hlen]; simp only [List.length_cons]; omega
      rw [e1]
      simp only [List.length_append, List.length_cons, List.length_nil] at ih
      rw [show ((done.length : Nat) : Int) + 1 = ((done.length + (0 + 1) : Nat) : Int) from by omega]
      simp only [Bool.not_false, Bool.true_or, Bool.and_true, Bool.and_eq_true]
      rw [ih]
      exact and_assoc.symm
theorem labG_good {l : List Sym} : ∀ (r done : List Sym), l = done ++ r → goodF l done.length r = true → labG done r = true
  | [], _, _, _ => rfl
  | x :: r, done, hl, h => by
    rw [goodF, Bool.and_eq_true, Bool.not_eq_true'] at h
    have ih := labG_good (l := l) r (done ++ [x]) (by rw [hl]; simp) (by simpa using h.2)
    have h1 := h.1
    unfold badF at h1
    rw [show l.take done.length = done from by rw [hl]; simp] at h1
    simp only [Bool.or_eq_false_iff] at h1
    rw [labG, ih, h1.1.1.1.1, h1.1.1.2]; rfl
theorem right_eq (l : List Sym) : rightL l = rightF l := by
  unfold rightL rightF
  obtain ⟨h1, h2⟩ := lab0 l
  rw [h1] at h2 ⊢
  cases l with
  | nil => simp [labG, symsF]
  | cons x r =>
    cases hg : labG [] (x :: r) with
    | true =>
      have h3 := goodG hg (h2 hg) (x :: r) [] rfl hg (by simp)
      simp only [List.length_nil] at h3
      rw [show ((0 : Nat) : Int) = 0 from rfl] at h3
      rw [Bool.eq_iff_iff]
      simp only [Bool.and_eq_true, Bool.true_and, List.isEmpty_cons, Bool.not_false, and_true, true_and]
      rw [h3]
    | false =>
      cases hgd : goodF (x :: r) 0 (x :: r) with
      | false => simp
      | true =>
        have := labG_good (x :: r) [] rfl hgd
        rw [hg] at this; cases this
end Go.Proofs.Ytcplpllbinilmaa
