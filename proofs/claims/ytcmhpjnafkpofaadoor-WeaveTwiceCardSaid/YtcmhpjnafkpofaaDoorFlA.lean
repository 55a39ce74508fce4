/- fl1 fl2 fl3, as one text. -/
import Derived.Test.YtcmhpjnafkpofaaDoorShelf
import Derived.Test.YtcmhpjnafkpofaaDoorBase
set_option linter.unusedVariables false
set_option linter.unusedSimpArgs false
/- Paths: the library's functions on them. -/
namespace Go.Proofs.YtcmhpjnafkpofaaDoor
open Go Go.Am Go.Proofs
set_option maxRecDepth 10000
set_option maxHeartbeats 4000000
set_option linter.unusedVariables false
set_option linter.unusedSimpArgs false
def strrow (x : ByteArray) : List D := [.sc (.string x)]
def ba (l : List UInt8) : ByteArray := ⟨l.toArray⟩
theorem ba_data (l : List UInt8) : (ba l).data.toList = l := rfl
theorem ba_of (x : ByteArray) : ba x.data.toList = x := rfl
def slash : ByteArray := ⟨#[47]⟩
/-- the parts of a text, at each slash -/
def splitL : List UInt8 → List (List UInt8)
  | [] => [[]]
  | c :: r => if c = 47 then [] :: splitL r else match splitL r with
    | [] => [[c]]
    | x :: xs => (c :: x) :: xs
def pieces (s : ByteArray) : List ByteArray := (splitL s.data.toList).map ba
theorem split_ne : ∀ l, splitL l ≠ []
  | [] => by simp [splitL]
  | c :: r => by
    rw [splitL]
    split
    · simp
    · split <;> simp
theorem index_one (c : UInt8) : ∀ l : List UInt8, (l.count c = 0 → Lib.index l [c] = -1) ∧ (0 < l.count c → ∃ i : Nat, Lib.index l [c] = i)
  | [] => ⟨fun _ => by simp [Lib.index], fun h => by simp at h⟩
  | b :: l => by
    have ih := index_one c l
    by_cases h : b = c
    · subst h
      refine ⟨fun h => by simp at h, fun _ => ⟨0, ?_⟩⟩
      rw [Lib.index]; simp [List.isPrefixOf]
    · have hp : ([c] : List UInt8).isPrefixOf (b :: l) = false := by simp [List.isPrefixOf, Ne.symm h]
      have hix : Lib.index (b :: l) [c] = if Lib.index l [c] == -1 then -1 else Lib.index l [c] + 1 := by rw [Lib.index, hp]; simp
      have hc : (b :: l).count c = l.count c := by rw [List.count_cons]; simp [h]
      rw [hc, hix]
      refine ⟨fun h0 => by rw [ih.1 h0]; rfl, fun h0 => ?_⟩
      obtain ⟨i, hi⟩ := ih.2 h0
      refine ⟨i + 1, ?_⟩
      rw [hi]
      have : ((i : Int) == -1) = false := by rw [beq_eq_false_iff_ne]; omega
      rw [this]; simp
theorem splitK_one : ∀ s : List UInt8, Lib.splitK [47] 0 (s.count 47) s = splitL s
  | [] => rfl
  | b :: l => by
    have ih := splitK_one l
    rw [splitL]
    by_cases h : b = 47
    · subst h
      rw [if_pos rfl, List.count_cons_self]
      have hix : Lib.index (47 :: l) [47] = 0 := by rw [Lib.index]; simp [List.isPrefixOf]
      rw [Lib.splitK, hix]
      simp only [show ((0 : Int) == -1) = false by decide, Bool.false_eq_true, if_false, Int.toNat_zero, Nat.zero_add, List.take_zero, List.length_singleton, List.drop_succ_cons, List.drop_zero]
      rw [ih]
    · rw [if_neg h]
      have hc : (b :: l).count 47 = l.count 47 := by rw [List.count_cons]; simp [h]
      have hp : ([47] : List UInt8).isPrefixOf (b :: l) = false := by simp [List.isPrefixOf, Ne.symm h]
      have hix : Lib.index (b :: l) [47] = if Lib.index l [47] == -1 then -1 else Lib.index l [47] + 1 := by rw [Lib.index, hp]; simp
      rw [hc]
      cases hk : l.count 47 with
      | zero =>
        rw [hk] at ih
        have ih : [l] = splitL l := ih
        rw [← ih]; rfl
      | succ k =>
        obtain ⟨i, hi⟩ := (index_one 47 l).2 (by omega)
        have hn : ((i : Int) == -1) = false := by rw [beq_eq_false_iff_ne]; omega
        rw [hi, hn] at hix
        simp only [Bool.false_eq_true, if_false] at hix
        have hn2 : ((i : Int) + 1 == -1) = false := by rw [beq_eq_false_iff_ne]; omega
        rw [hk, Lib.splitK, hi, hn] at ih
        rw [Lib.splitK, hix, hn2]
        simp only [Bool.false_eq_true, if_false, List.length_singleton, Nat.add_zero] at ih ⊢
        rw [← ih]
        have e1 : ((i : Int) + 1).toNat = i + 1 := by omega
        have e2 : ((i : Int)).toNat = i := by omega
        rw [e1, e2, List.take_succ_cons, List.drop_succ_cons]
theorem splitB_slash (s : ByteArray) : Lib.splitB slash 0 (Lib.countB s slash) s = pieces s := by
  have h := Lib.splitB_data slash 0 (Lib.countB s slash) s
  have hc : Lib.countB s slash = s.data.toList.count 47 := by
    show Lib.count s.data.toList [47] = _
    exact Lib.count_one 47 _
  rw [hc] at h ⊢
  have h2 : (Lib.splitB slash 0 (s.data.toList.count 47) s).map (·.data.toList) = splitL s.data.toList := h.trans (splitK_one _)
  have h3 := congrArg (List.map ba) h2
  rw [List.map_map] at h3
  unfold pieces
  rw [← h3]
  exact (List.map_id _).symm
theorem pieces_len (s : ByteArray) : (pieces s).length = Lib.countB s slash + 1 := by
  rw [← splitB_slash]
  exact Lib.splitB_all slash (by decide) 0 _ s rfl
theorem strs_rows (l : List ByteArray) (i j : Nat) (row : List D) (d : D) (h1 : (l.map strrow)[i]? = some row) (h2 : row[j]? = some d) : ∃ x, l[i]? = some x ∧ j = 0 ∧ d = .sc (.string x) := by
  rw [List.getElem?_map, Option.map_eq_some_iff] at h1
  obtain ⟨x, hx, rfl⟩ := h1
  cases j with
  | zero => exact ⟨x, hx, rfl, (Option.some.inj h2).symm⟩
  | succ j => cases h2
/-- strings.Split at a slash -/
theorem pathSplitR [GVals] (s : ByteArray) (hs : s.size < 4294967281) : Comp Tryd.prog 23 [str s, str slash] (lst strrow (pieces s)) := by
  refine ⟨⟨_, Tryd.func23, by decide, rfl⟩, fun κ w ys hR hx => ?_⟩
  have := scal_args (xs := [.string s, .string slash]) hx
  subst this
  refine (Tryd.strings_Split s slash GVals.m0 w hs (glob_int hR rfl) (by decide)).mono fun en w' ⟨h1, h2⟩ => ?_
  rw [splitB_slash, ← pieces_len] at *
  have hl : ((pieces s).map strrow).length = (pieces s).length := by simp
  obtain ⟨g1, g2, g3⟩ := list_made (rows := (pieces s).map strrow) (sz := 1) (cap := (pieces s).length) (c := ((pieces s).map Value.string).toArray) hR (w' := w') (E := 9) (f := (0, 0)) (by rw [h2]; exact Grew.alloc w _) (by rw [hl]; exact Nat.le_refl _)
    (fun r hr => by
      obtain ⟨x, _, rfl⟩ := List.mem_map.1 hr
      rfl) (fun i j row d hi hj => by
      obtain ⟨x, hx, rfl, rfl⟩ := strs_rows _ _ _ _ _ hi hj
      refine ⟨.string x, ?_, .sc _ rfl⟩
      rw [Nat.mul_one, Nat.add_zero, List.getElem?_toArray, List.getElem?_map, hx]; rfl)
  rw [hl] at g1 g2 g3
  exact ⟨_, _, _, _, h1, ⟨rfl, rfl⟩, .one _ _ (.d _ _ g3), rfl, g1, g2⟩
/-- the parts, and slashes between -/
def joinB (l : List ByteArray) : ByteArray := ba (Lib.join (l.map (·.data.toList)) [47])
theorem below_evo [GVals] {κ : K} {w w' : World} (hR : RS κ w []) (hb : Go.RowKit.Below w.heap.size w w') : Evo κ w [] κ w' [] ∧ RS κ w' [] :=
  RS.fresh hR (fun _ _ h => h) rfl rfl (fun b o h => .inl h) (fun b hlt => hb.block b hlt) hb.size hb.os hb.tape hb.output
/-- strings.Join by slashes -/
theorem joinR [GVals] (l : List ByteArray) (h1 : l.length ≤ 140737488355328) (h2 : (Lib.join (l.map (·.data.toList)) [47]).length ≤ 140737488355328) : Comp Tryd.prog 24 [lst strrow l, str slash] (str (joinB l)) := by
  refine ⟨⟨_, Tryd.func24, by decide, rfl⟩, fun κ w ys hR hx => ?_⟩
  obtain ⟨hn, hx⟩ := hx
  obtain ⟨y0, y1, rfl⟩ : ∃ y0 y1, ys = [y0, y1] := by
    match ys, hn with
    | [a, b], _ => exact ⟨a, b, rfl⟩
  have r0 := (hx 0 _ y0 rfl rfl).1
  have r1 := (hx 1 _ y1 rfl rfl).1
  have e1 : y1 = .string slash := by
    cases r1 with | one _ _ hc => cases hc with | d _ _ hd => cases hd with | sc _ _ => rfl
  subst e1
  have hnone : ∀ (a : Option Addr) (cap : Nat), y0 = .slice a 0 cap → l = [] → Calls Tryd.prog 24 #[y0, .string slash] w fun en w' => ∃ x r κ' σ', en = .returned x ∧ (r = str (joinB l) ∧ σ' = []) ∧ RV κ' w' r x ∧ r.under (alive σ') = true ∧ Evo κ w [] κ' w' σ' ∧ RS κ' w' σ' := by
    rintro a cap rfl rfl
    refine (Tryd.strings_Join_none a cap slash w).mono fun en w' ⟨g1, g2⟩ => ?_
    subst g2
    exact ⟨_, _, κ, [], g1, ⟨rfl, rfl⟩, .one _ _ (.d _ _ (.sc _ rfl)), rfl, .refl, hR⟩
  cases r0 with
  | one _ _ hc =>
  cases hc with
  | d _ _ hd =>
  generalize hrows : l.map strrow = rows at hd
  cases hd with
  | nil a cap => exact hnone a cap rfl (by simpa using hrows)
  | list b off cap sz _ vs hcap hrow hcell hrel =>
    by_cases hl : l = []
    · subst hl
      subst hrows
      exact hnone _ cap rfl rfl
    · have hlen : rows.length = l.length := by rw [← hrows]; simp
      have hsz : sz = 1 := by
        obtain ⟨x, r, rfl⟩ : ∃ x r, l = x :: r := by
          cases l with
          | nil => exact absurd rfl hl
          | cons x r => exact ⟨x, r, rfl⟩
        have := hrow 0 (strrow x) (by rw [← hrows]; rfl)
        exact this.symm
      subst hsz
      have hat : ∀ (j : Nat) x, l[j]? = some x → κ.S b (off + j) ∧ w.cell? ⟨b, off + j, none⟩ = some (.string x) := by
        intro j x hj
        have hr : rows[j]? = some (strrow x) := by rw [← hrows, List.getElem?_map, hj]; rfl
        obtain ⟨g1, g2⟩ := hcell j 0 _ _ hr rfl
        have g3 := hrel j 0 _ _ hr rfl
        rw [Nat.mul_one, Nat.add_zero] at g1 g2
        refine ⟨g1, ?_⟩
        have : vs j 0 = .string x := by
          generalize vs j 0 = v at g3
          cases g3 with | sc _ _ => rfl
        rw [this] at g2
        exact g2
      have hb : b < w.heap.size := by
        obtain ⟨x, hx0⟩ : ∃ x, l[0]? = some x := by
          cases l with
          | nil => exact absurd rfl hl
          | cons x r => exact ⟨x, rfl⟩
        exact hR.inside b _ (hat 0 x hx0).1
      rw [hlen] at hcap ⊢
      refine (Tryd.strings_Join b off cap l slash w (fun j x hj => (hat j x hj).2) hb h1 hcap h2).mono fun en w' ⟨g1, g2⟩ => ?_
      obtain ⟨g3, g4⟩ := below_evo hR g2
      exact ⟨_, _, κ, [], g1, ⟨rfl, rfl⟩, .one _ _ (.d _ _ (.sc _ rfl)), rfl, g3, g4⟩
def lastSlash (s : ByteArray) : Int := Lib.lastIndexByte s 47
theorem lastSlashR [GVals] (s : ByteArray) (hs : s.size < 4611686018427387904) : Comp Tryd.prog 30 [str s, str slash] (int .i64 (lastSlash s)) :=
  comp_still (xs := [.string s, .string slash]) ⟨_, Tryd.func30, by decide, rfl⟩ (fun w => Tryd.strings_LastIndex_one s slash (by decide) hs w) rfl
theorem prefixR [GVals] (s : ByteArray) : Comp Tryd.prog 29 [str s, str slash] (Am.bool (Lib.hasPrefix s.data.toList [47])) :=
  comp_still (xs := [.string s, .string slash]) ⟨_, Tryd.func29, by decide, rfl⟩ (fun w => Tryd.strings_HasPrefix s slash w) rfl
end Go.Proofs.YtcmhpjnafkpofaaDoor
/- Paths: what is clean. -/
namespace Go.Proofs.YtcmhpjnafkpofaaDoor
open Go Go.Am Go.Proofs
attribute [local irreducible] W WL DL WO RoundEnd
set_option maxRecDepth 10000
set_option maxHeartbeats 4000000
set_option linter.unusedVariables false
set_option linter.unusedSimpArgs false
/-- parts, one by one, onto those that stand so far -/
def cleanW : List ByteArray → List ByteArray → Option (List ByteArray)
  | [], out => some out
  | x :: r, out => bif x == ⟨#[]⟩ || x == ⟨#[46]⟩ then cleanW r out
    else bif x == ⟨#[46, 46]⟩ then (bif out.isEmpty then none else cleanW r out.dropLast)
    else cleanW r (out ++ [x])
abbrev pathV (s : ByteArray) (b : Bool) : V := .tup [.one (.d (.sc (.string s))), .one (.d (.sc (.bool b)))]
def cleanV (o : Option (List ByteArray)) : V := match o with
  | none => pathV ⟨#[]⟩ false
  | some out => pathV (joinB out) (decide ((out.length : Int) > 0))
theorem cleanW_len : ∀ (r out l : List ByteArray), cleanW r out = some l → l.length ≤ out.length + r.length
  | [], out, l, h => by
    rw [cleanW] at h; rw [← Option.some.inj h]; simp
  | x :: r, out, l, h => by
    rw [cleanW] at h
    rw [List.length_cons]
    cases h1 : (x == ⟨#[]⟩ || x == ⟨#[46]⟩) with
    | true => rw [h1] at h; have := cleanW_len r out l h; omega
    | false =>
      rw [h1] at h
      cases h2 : x == ⟨#[46, 46]⟩ with
      | true =>
        rw [h2] at h
        cases h3 : out.isEmpty with
        | true => rw [h3] at h; cases h
        | false =>
          rw [h3] at h
          have := cleanW_len r out.dropLast l h
          rw [List.length_dropLast] at this; omega
      | false =>
        rw [h2] at h
        have := cleanW_len r (out ++ [x]) l h
        rw [List.length_append, List.length_singleton] at this; omega
theorem drop_rows (out : List ByteArray) (h : 0 < out.length) (hl : out.length < 2 ^ 40) : (out.map strrow).take (IntKind.i64.wrap (((out.map strrow).length : Int) - 1)).toNat = out.dropLast.map strrow := by
  rw [List.length_map, wrap_ok (by omega) (by omega)]
  have : ((out.length : Int) - 1).toNat = out.length - 1 := by omega
  rw [this, ← List.map_take, List.dropLast_eq_take]
theorem drop_len (out : List ByteArray) (h : 0 < out.length) (hl : out.length < 2 ^ 40) : (IntKind.i64.wrap (((out.map strrow).length : Int) - 1)).toNat = (out.dropLast.map strrow).length := by
  rw [List.length_map, wrap_ok (by omega) (by omega), List.length_map, List.length_dropLast]
  omega
/-- the text that parts make is no longer than what they came of -/
theorem files_clean [GVals] (s : ByteArray) (hs : s.size < 4294967281) (hj : ∀ out, cleanW (pieces s) [] = some out → (Lib.join (out.map (·.data.toList)) [47]).length ≤ 140737488355328) (hp : (pieces s).length < 2 ^ 34) : Comp Tryd.prog 10 [str s] (cleanV (cleanW (pieces s) [])) := by
  have c1 := pathSplitR s hs
  generalize pieces s = ps at *
  generalize hfb : cleanW ps [] = fb at *
  refine Spec.body (C := cx [(4, true), (18, true)] 43) fits (fn := Tryd.f10) Tryd.func10 rfl (by decide) (by decide) (gI ?_)
  repeat' (first | ((first | refine C_r ?_ | refine O_r ?_); (conv => whnf); first | refine A_o ?_ | refine B_o ?_) | refine C_l (c1) ?_ | fail)
  clear c1
  refine wLoop [4, 8, 9, 10] 1 (ps.length + 1) ?_
  refine (fun key => key ps [] [] 0 rfl hfb.symm (Nat.le_refl _) :
    (∀ (rest done out : List ByteArray) (ep : Nat), ps = done ++ rest → fb = cleanW rest out → out.length ≤ done.length →
    WR2 _ _ _ _ _ (rest.length + 1) [(4, .one (.arr 0 ep (out.map strrow).length)), (8, lst strrow ps), (9, int .i64 (ps.map strrow).length), (10, int .i64 done.length)] [.arr ep true 1 (out.map strrow)]) → _) ?_
  intro rest
  induction rest with
  | nil =>
    intro done out ep h1 hr ho
    have hlen : ps.length = done.length := by rw [h1]; simp
    have hfb2 : fb = some out := hr
    have c2 := joinR out (by omega) (hj out hfb2)
    subst hfb2
    have hz : (decide (((out.map strrow).length : Int) > 0)) = decide ((out.length : Int) > 0) := by rw [List.length_map]
    have q : decide ((done.length : Int) < ((ps.map strrow).length : Int)) = false := by rw [decide_eq_false_iff_not, List.length_map]; omega
    refine wR (gI ?_)
    refine gF 0 ?_
    repeat' (first | ((first | refine C_r ?_ | refine O_r ?_); (conv => whnf); first | (refine ⟨fun hb => ?_, fun hb => ?_⟩ <;> try exact no_way) | refine A_o ?_ | refine B_o ?_ | refine fR ?_) | refine C_l (c2) ?_ | fail)
    · rw [hb] at hz
      exact ⟨by dsimp only [cleanV]; rw [← hz], rfl⟩
    · rw [hb] at hz
      exact ⟨by dsimp only [cleanV]; rw [← hz], rfl⟩
  | cons x rest ih =>
    intro done out ep h1 hr ho
    have hlen : ps.length = done.length + (rest.length + 1) := by rw [h1]; simp
    have q : decide ((done.length : Int) < ((ps.map strrow).length : Int)) = true := by rw [decide_eq_true_eq, List.length_map]; omega
    have hx : ps[((done.length : Nat) : Int).toNat]? = some x := by rw [h1]; simp
    have g2 := at_of (f := strrow) hx
    have e7 : IntKind.i64.wrap ((done.length : Int) + 1) = ((done.length + 1 : Nat) : Int) := by rw [wrap_ok (by omega) (by omega)]; omega
    have hol : out.length < 2 ^ 34 := by omega
    have hol2 : (out.map strrow).length < 2 ^ 34 := by rw [List.length_map]; omega
    have hnx := fun out2 ep2 (h : fb = cleanW rest out2) (hl2 : out2.length ≤ done.length + 1) => ih (done ++ [x]) out2 ep2 (by rw [h1]; simp) h (by rw [List.length_append]; exact hl2)
    rw [show (done ++ [x]).length = done.length + 1 from by simp] at hnx
    rw [cleanW] at hr
    cases h0 : out.isEmpty with
    | true =>
      have ho0 : out = [] := List.isEmpty_iff.1 h0
      subst ho0
      clear ih
      refine wR (gI ?_)
      repeat' (first | ((first | refine C_r ?_ | refine O_r ?_); (conv => whnf); first | (refine ⟨fun hb => ?_, fun hb => ?_⟩ <;> try exact no_way) | refine B_o ?_ | refine R_o ?_ | refine fR ?_) | refine X_l ?_ | refine A_l ?_ | fail)
      · rw [hb] at hr
        rw [e7]; exact rE (hnx [] ep hr (by simp))
      · rw [hb, Bool.or_true] at hr
        rw [e7]; exact rE (hnx [] ep hr (by simp))
      · simp only [‹(x == ⟨#[]⟩) = false›, ‹(x == ⟨#[46]⟩) = false›, Bool.or_false, cond_false, show (x == ⟨#[46, 46]⟩) = false from by simpa using hb] at hr
        have g := hnx ([] ++ [x]) ep hr (by simp)
        rw [List.map_append] at g
        rw [e7]; exact rE g
      · simp only [‹(x == ⟨#[]⟩) = false›, ‹(x == ⟨#[46]⟩) = false›, Bool.or_false, cond_false, show (x == ⟨#[46, 46]⟩) = true from by simpa using ‹(!x == ⟨#[46, 46]⟩) = false›, List.isEmpty_nil, cond_true] at hr
        rw [hr]; exact ⟨rfl, rfl⟩
    | false =>
      have hpos : 0 < out.length := by
        cases out with
        | nil => cases h0
        | cons a b => simp
      have k1 : ((((out.map strrow).length : Int)) == 0) = false := by rw [beq_eq_false_iff_ne, List.length_map]; omega
      have k2 := drop_rows out hpos (by omega)
      have k3 := drop_len out hpos (by omega)
      have k4 : 0 ≤ IntKind.i64.wrap (((out.map strrow).length : Int) - 1) := by rw [List.length_map, wrap_ok (by omega) (by omega)]; omega
      have k5 : IntKind.i64.wrap (((out.map strrow).length : Int) - 1) ≤ (out.map strrow).length := by rw [List.length_map, wrap_ok (by omega) (by omega)]; omega
      clear ih
      refine wR (gI ?_)
      repeat' (first | ((first | refine C_r ?_ | refine O_r ?_); (conv => whnf); first | (refine ⟨fun hb => ?_, fun hb => ?_⟩ <;> try exact no_way) | refine B_o ?_ | refine R_o ?_) | refine Kb_l ?_ | refine X_l ?_ | refine A_l ?_ | fail)
      · rw [hb] at hr
        rw [e7]; exact rE (hnx out ep hr (by omega))
      · rw [hb, Bool.or_true] at hr
        rw [e7]; exact rE (hnx out ep hr (by omega))
      · simp only [‹(x == ⟨#[]⟩) = false›, ‹(x == ⟨#[46]⟩) = false›, Bool.or_false, cond_false, show (x == ⟨#[46, 46]⟩) = false from by simpa using hb] at hr
        have g := hnx (out ++ [x]) ep hr (by rw [List.length_append, List.length_singleton]; omega)
        rw [List.map_append] at g
        rw [e7]; exact rE g
      · simp only [‹(x == ⟨#[]⟩) = false›, ‹(x == ⟨#[46]⟩) = false›, Bool.or_false, cond_false, show (x == ⟨#[46, 46]⟩) = true from by simpa using ‹(!x == ⟨#[46, 46]⟩) = false›, h0, cond_true] at hr
        rw [e7]; exact rE (hnx out.dropLast (ep + 1) hr (by rw [List.length_dropLast]; omega))
end Go.Proofs.YtcmhpjnafkpofaaDoor
/- Paths: the document's parts, and what it takes for clean. -/
namespace Go.Proofs.YtcmhpjnafkpofaaDoor
open Go Go.Am Go.Proofs
attribute [local irreducible] W WL DL WO RoundEnd
set_option maxRecDepth 10000
set_option maxHeartbeats 4000000
set_option linter.unusedVariables false
set_option linter.unusedSimpArgs false
theorem split_at : ∀ (n : Nat) (l : List UInt8), (∀ k, k < n → l[k]? ≠ some 47) → l[n]? = some 47 → splitL l = l.take n :: splitL (l.drop (n + 1))
  | 0, l, _, h => by
    cases l with
    | nil => cases h
    | cons c r =>
      have : c = 47 := Option.some.inj h
      subst this
      rw [splitL, if_pos rfl]; rfl
  | n + 1, l, hn, h => by
    cases l with
    | nil => cases h
    | cons c r =>
      have hc : c ≠ 47 := fun e => hn 0 (by omega) (by rw [e]; rfl)
      have ih := split_at n r (fun k hk => hn (k + 1) (by omega)) h
      rw [splitL, if_neg hc, ih]; rfl
theorem split_end : ∀ l : List UInt8, (∀ k : Nat, l[k]? ≠ some 47) → splitL l = [l]
  | [], _ => rfl
  | c :: r, h => by
    have hc : c ≠ 47 := fun e => h 0 (by rw [e]; rfl)
    rw [splitL, if_neg hc, split_end r fun k => h (k + 1)]
theorem ext_ba (s : ByteArray) (a b : Nat) : s.extract a b = ba ((s.data.toList.drop a).take (b - a)) := by
  have h : (s.extract a b).data.toList = (s.data.toList.drop a).take (b - a) := by
    rw [Lib.extract_data]
  rw [← h]; rfl
structure PartI (s : ByteArray) (done : List ByteArray) (fr i : Nat) : Prop where
  le : fr ≤ i
  no : ∀ k, fr ≤ k → k < i → s.data.toList[k]? ≠ some 47
  eq : pieces s = done ++ (splitL (s.data.toList.drop fr)).map ba
theorem part_at {s : ByteArray} {done : List ByteArray} {fr i : Nat} (h : PartI s done fr i) (hi : s.data.toList[i]? = some 47) : PartI s (done ++ [s.extract fr i]) (i + 1) (i + 1) := by
  have hle := h.le
  refine ⟨Nat.le_refl _, fun k h1 h2 => by omega, ?_⟩
  rw [h.eq, split_at (i - fr) (s.data.toList.drop fr) (fun k hk => by rw [List.getElem?_drop]; exact h.no _ (by omega) (by omega)) (by rw [List.getElem?_drop, show fr + (i - fr) = i by omega]; exact hi)]
  rw [List.drop_drop, show fr + (i - fr + 1) = i + 1 by omega, List.map_cons, ext_ba, List.append_assoc]; rfl
theorem part_no {s : ByteArray} {done : List ByteArray} {fr i : Nat} (h : PartI s done fr i) (hi : s.data.toList[i]? ≠ some 47) : PartI s done fr (i + 1) := by
  have hle := h.le
  refine ⟨by omega, fun k h1 h2 => ?_, h.eq⟩
  by_cases e : k = i
  · rw [e]; exact hi
  · exact h.no k h1 (by omega)
theorem part_end {s : ByteArray} {done : List ByteArray} {fr : Nat} (h : PartI s done fr s.size) : pieces s = done ++ [s.extract fr s.size] := by
  have hle := h.le
  have hz : s.data.toList.length = s.size := rfl
  rw [h.eq, split_end]
  · rw [ext_ba, List.take_of_length_le (by rw [List.length_drop]; omega)]; rfl
  · intro k
    rw [List.getElem?_drop]
    by_cases hk : fr + k < s.size
    · exact h.no _ (by omega) hk
    · rw [List.getElem?_eq_none (by omega)]; simp
theorem partsR [GVals] (s : ByteArray) (hs : s.size < 2 ^ 33) : Comp Tryd.prog 26 [str s, int .u8 47] (lst strrow (pieces s)) := by
  have hz : s.data.toList.length = s.size := rfl
  generalize hfb : pieces s = fb
  refine Spec.body (C := cx [(5, false)] 35) fits (fn := Tryd.f26) Tryd.func26 rfl (by decide) (by decide) (gI ?_)
  repeat' (first | (refine C_r ?_; (conv => whnf); first | refine A_o ?_) | fail)
  refine wLoop [0, 1, 5, 6, 7] 1 (s.size + 1 + 1) ?_
  refine (fun key => key (s.size + 1) 0 0 [] rfl (Nat.le_refl _) (fun _ => ⟨Nat.le_refl _, fun k h1 h2 => by omega, by rw [List.drop_zero]; rfl⟩) (fun h => by omega) :
    (∀ (c i fr : Nat) (done : List ByteArray), c + i = s.size + 1 → done.length ≤ i → (i ≤ s.size → PartI s done fr i) → (i = s.size + 1 → pieces s = done) →
    WR2 _ _ _ _ _ (c + 1) [(0, str s), (1, int .u8 47), (5, .one (.arr 0 0 (done.map strrow).length)), (6, int .i64 fr), (7, int .i64 i)] [.arr 0 false 1 (done.map strrow)]) → _) ?_
  intro c
  induction c with
  | zero =>
    intro i fr done hi hdl hP hE
    have q : decide ((i : Int) ≤ (s.size : Int)) = false := by rw [decide_eq_false_iff_not]; omega
    rw [hE (by omega)] at hfb
    refine wR (gI ?_)
    repeat' (first | ((first | refine C_r ?_ | refine O_r ?_); (conv => whnf); first | (refine ⟨fun hb => ?_, fun hb => ?_⟩ <;> try exact no_way) | refine A_o ?_ | refine fR ?_) | fail)
    exact ⟨by rw [← hfb]; rfl, rfl⟩
  | succ c ih =>
    intro i fr done hi hdl hP hE
    have hP := hP (by omega)
    have hle := hP.le
    have q : decide ((i : Int) ≤ (s.size : Int)) = true := by rw [decide_eq_true_eq]; omega
    have hdl2 : (done.map strrow).length < 2 ^ 34 := by rw [List.length_map]; omega
    have e7 : IntKind.i64.wrap ((i : Int) + 1) = ((i + 1 : Nat) : Int) := by rw [wrap_ok (by omega) (by omega)]; omega
    have hex : s.extract ((fr : Nat) : Int).toNat ((i : Nat) : Int).toNat = s.extract fr i := rfl
    by_cases hie : i = s.size
    · have q2 : ((i : Int) == (s.size : Int)) = true := by rw [beq_iff_eq, hie]
      have hend : pieces s = done ++ [s.extract fr i] := by rw [hie] at hP ⊢; exact part_end hP
      have g := ih (i + 1) (i + 1) (done ++ [s.extract fr i]) (by omega) (by rw [List.length_append, List.length_singleton]; omega) (fun h => by omega) (fun _ => hend)
      rw [List.map_append] at g
      clear ih
      refine wR (gI ?_)
      repeat' (first | ((first | refine C_r ?_ | refine O_r ?_); (conv => whnf); first | (refine ⟨fun hb => ?_, fun hb => ?_⟩ <;> try exact no_way) | refine B_o ?_ | refine R_o ?_) | refine A_l ?_ | refine Kz_l ?_ | fail)
      rw [e7]; exact rE g
    · have q2 : ((i : Int) == (s.size : Int)) = false := by rw [beq_eq_false_iff_ne]; omega
      obtain ⟨b, hb⟩ : ∃ b, s.data.toList[((i : Nat) : Int).toNat]? = some b := ⟨_, List.getElem?_eq_getElem (by rw [hz]; show i < s.size; omega)⟩
      have hb2 : s.data.toList[i]? = some b := hb
      cases h47 : ((b.toNat : Int) == 47) with
      | true =>
        have hb47 : b = 47 := by
          rw [beq_iff_eq] at h47
          exact UInt8.toNat_inj.1 (by show b.toNat = 47; omega)
        subst hb47
        have g := ih (i + 1) (i + 1) (done ++ [s.extract fr i]) (by omega) (by rw [List.length_append, List.length_singleton]; omega) (fun _ => part_at hP hb2) (fun h => by omega)
        rw [List.map_append] at g
        clear ih
        refine wR (gI ?_)
        repeat' (first | ((first | refine C_r ?_ | refine O_r ?_); (conv => whnf); first | (refine ⟨fun hb => ?_, fun hb => ?_⟩ <;> try exact no_way) | refine B_o ?_ | refine R_o ?_) | refine Xs_l ?_ | refine A_l ?_ | refine Kz_l ?_ | fail)
        rw [e7]; exact rE g
      | false =>
        have hb47 : s.data.toList[i]? ≠ some 47 := by
          rw [hb2]
          intro e
          rw [Option.some.inj e] at h47
          exact absurd h47 (by decide)
        have g := ih (i + 1) fr done (by omega) (by omega) (fun _ => part_no hP hb47) (fun h => by omega)
        clear ih
        refine wR (gI ?_)
        repeat' (first | ((first | refine C_r ?_ | refine O_r ?_); (conv => whnf); first | (refine ⟨fun hb => ?_, fun hb => ?_⟩ <;> try exact no_way) | refine B_o ?_ | refine R_o ?_) | refine Xs_l ?_ | fail)
        rw [e7]; exact rE g
/-! the document's way -/
def refV (o : Option (List ByteArray)) : V := match o with
  | some (x :: r) => pathV (joinB (x :: r)) true
  | _ => pathV ⟨#[]⟩ false
theorem refV_eq (o : Option (List ByteArray)) : refV o = cleanV o := by
  cases o with
  | none => rfl
  | some l =>
    cases l with
    | nil => rfl
    | cons x r =>
      show pathV _ true = pathV _ (decide (((r.length + 1 : Nat) : Int) > 0))
      rw [show decide (((r.length + 1 : Nat) : Int) > 0) = true from by rw [decide_eq_true_eq]; omega]
end Go.Proofs.YtcmhpjnafkpofaaDoor
