/- Paths: the library's functions on them. -/
import Derived.Test.YtcmhpjnafkpofaaDoorShelf
import Derived.Test.YtcmhpjnafkpofaaDoorBase
set_option linter.unusedVariables false
set_option linter.unusedSimpArgs false
namespace Go.Proofs.YtcmhpjnafkpofaaDoor
open Go Go.Am Go.Proofs
set_option maxRecDepth 10000
set_option maxHeartbeats 4000000
set_option linter.unusedVariables false
set_option linter.unusedSimpArgs false
def strrow (x : ByteArray) : List D := [.sc (.string x)]
def ba (l : List UInt8) : ByteArray := ⟨l.toArray⟩
theorem ba_data (l : List UInt8) : (ba l).data.toList = l := rfl
theorem ba_of (x : ByteArray) : ba x.data.toList = x := rfl
def slash : ByteArray := ⟨#[47]⟩
/-- the parts of a text, at each slash -/
def splitL : List UInt8 → List (List UInt8)
  | [] => [[]]
  | c :: r => if c = 47 then [] :: splitL r else match splitL r with
    | [] => [[c]]
    | x :: xs => (c :: x) :: xs
def pieces (s : ByteArray) : List ByteArray := (splitL s.data.toList).map ba
theorem split_ne : ∀ l, splitL l ≠ []
  | [] => by simp [splitL]
  | c :: r => by
    rw [splitL]
    split
    · simp
    · split <;> simp
theorem index_one (c : UInt8) : ∀ l : List UInt8, (l.count c = 0 → Lib.index l [c] = -1) ∧ (0 < l.count c → ∃ i : Nat, Lib.index l [c] = i)
  | [] => ⟨fun _ => by simp [Lib.index], fun h => by simp at h⟩
  | b :: l => by
    have ih := index_one c l
    by_cases h : b = c
    · subst h
      refine ⟨fun h => by simp at h, fun _ => ⟨0, ?_⟩⟩
      rw [Lib.index]; simp [List.isPrefixOf]
    · have hp : ([c] : List UInt8).isPrefixOf (b :: l) = false := by simp [List.isPrefixOf, Ne.symm h]
      have hix : Lib.index (b :: l) [c] = if Lib.index l [c] == -1 then -1 else Lib.index l [c] + 1 := by rw [Lib.index, hp]; simp
      have hc : (b :: l).count c = l.count c := by rw [List.count_cons]; simp [h]
      rw [hc, hix]
      refine ⟨fun h0 => by rw [ih.1 h0]; rfl, fun h0 => ?_⟩
      obtain ⟨i, hi⟩ := ih.2 h0
      refine ⟨i + 1, ?_⟩
      rw [hi]
      have : ((i : Int) == -1) = false := by rw [beq_eq_false_iff_ne]; omega
      rw [this]; simp
theorem splitK_one : ∀ s : List UInt8, Lib.splitK [47] 0 (s.count 47) s = splitL s
  | [] => rfl
  | b :: l => by
    have ih := splitK_one l
    rw [splitL]
    by_cases h : b = 47
    · subst h
      rw [if_pos rfl, List.count_cons_self]
      have hix : Lib.index (47 :: l) [47] = 0 := by rw [Lib.index]; simp [List.isPrefixOf]
      rw [Lib.splitK, hix]
      simp only [show ((0 : Int) == -1) = false by decide, Bool.false_eq_true, if_false, Int.toNat_zero, Nat.zero_add, List.take_zero, List.length_singleton, List.drop_succ_cons, List.drop_zero]
      rw [ih]
    · rw [if_neg h]
      have hc : (b :: l).count 47 = l.count 47 := by rw [List.count_cons]; simp [h]
      have hp : ([47] : List UInt8).isPrefixOf (b :: l) = false := by simp [List.isPrefixOf, Ne.symm h]
      have hix : Lib.index (b :: l) [47] = if Lib.index l [47] == -1 then -1 else Lib.index l [47] + 1 := by rw [Lib.index, hp]; simp
      rw [hc]
      cases hk : l.count 47 with
      | zero =>
        rw [hk] at ih
        have ih : [l] = splitL l := ih
        rw [← ih]; rfl
      | succ k =>
        obtain ⟨i, hi⟩ := (index_one 47 l).2 (by omega)
        have hn : ((i : Int) == -1) = false := by rw [beq_eq_false_iff_ne]; omega
        rw [hi, hn] at hix
        simp only [Bool.false_eq_true, if_false] at hix
        have hn2 : ((i : Int) + 1 == -1) = false := by rw [beq_eq_false_iff_ne]; omega
        rw [hk, Lib.splitK, hi, hn] at ih
        rw [Lib.splitK, hix, hn2]
        simp only [Bool.false_eq_true, if_false, List.length_singleton, Nat.add_zero] at ih ⊢
        rw [← ih]
        have e1 : ((i : Int) + 1).toNat = i + 1 := by omega
        have e2 : ((i : Int)).toNat = i := by omega
        rw [e1, e2, List.take_succ_cons, List.drop_succ_cons]
theorem splitB_slash (s : ByteArray) : Lib.splitB slash 0 (Lib.countB s slash) s = pieces s := by
  have h := Lib.splitB_data slash 0 (Lib.countB s slash) s
  have hc : Lib.countB s slash = s.data.toList.count 47 := by
    show Lib.count s.data.toList [47] = _
    exact Lib.count_one 47 _
  rw [hc] at h ⊢
  have h2 : (Lib.splitB slash 0 (s.data.toList.count 47) s).map (·.data.toList) = splitL s.data.toList := h.trans (splitK_one _)
  have h3 := congrArg (List.map ba) h2
  rw [List.map_map] at h3
  unfold pieces
  rw [← h3]
  exact (List.map_id _).symm
theorem pieces_len (s : ByteArray) : (pieces s).length = Lib.countB s slash + 1 := by
  rw [← splitB_slash]
  exact Lib.splitB_all slash (by decide) 0 _ s rfl
theorem strs_rows (l : List ByteArray) (i j : Nat) (row : List D) (d : D) (h1 : (l.map strrow)[i]? = some row) (h2 : row[j]? = some d) : ∃ x, l[i]? = some x ∧ j = 0 ∧ d = .sc (.string x) := by
  rw [List.getElem?_map, Option.map_eq_some_iff] at h1
  obtain ⟨x, hx, rfl⟩ := h1
  cases j with
  | zero => exact ⟨x, hx, rfl, (Option.some.inj h2).symm⟩
  | succ j => cases h2
/-- strings.Split at a slash -/
theorem splitR [GVals] (s : ByteArray) (hs : s.size < 4294967281) : Comp Tryd.prog 23 [str s, str slash] (lst strrow (pieces s)) := by
  refine ⟨⟨_, Tryd.func23, by decide, rfl⟩, fun κ w ys hR hx => ?_⟩
  have := scal_args (xs := [.string s, .string slash]) hx
  subst this
  refine (Tryd.strings_Split s slash GVals.m0 w hs (glob_int hR rfl) (by decide)).mono fun en w' ⟨h1, h2⟩ => ?_
  rw [splitB_slash, ← pieces_len] at *
  have hl : ((pieces s).map strrow).length = (pieces s).length := by simp
  obtain ⟨g1, g2, g3⟩ := list_made (rows := (pieces s).map strrow) (sz := 1) (cap := (pieces s).length) (c := ((pieces s).map Value.string).toArray) hR (w' := w') (E := 9) (f := (0, 0)) (by rw [h2]; exact Grew.alloc w _) (by rw [hl]; exact Nat.le_refl _)
    (fun r hr => by
      obtain ⟨x, _, rfl⟩ := List.mem_map.1 hr
      rfl) (fun i j row d hi hj => by
      obtain ⟨x, hx, rfl, rfl⟩ := strs_rows _ _ _ _ _ hi hj
      refine ⟨.string x, ?_, .sc _ rfl⟩
      rw [Nat.mul_one, Nat.add_zero, List.getElem?_toArray, List.getElem?_map, hx]; rfl)
  rw [hl] at g1 g2 g3
  exact ⟨_, _, _, _, h1, ⟨rfl, rfl⟩, .one _ _ (.d _ _ g3), rfl, g1, g2⟩
/-- the parts, and slashes between -/
def joinB (l : List ByteArray) : ByteArray := ba (Lib.join (l.map (·.data.toList)) [47])
theorem below_evo [GVals] {κ : K} {w w' : World} (hR : RS κ w []) (hb : Go.RowKit.Below w.heap.size w w') : Evo κ w [] κ w' [] ∧ RS κ w' [] :=
  RS.fresh hR (fun _ _ h => h) rfl rfl (fun b o h => .inl h) (fun b hlt => hb.block b hlt) hb.size hb.os hb.tape hb.output
/-- strings.Join by slashes -/
theorem joinR [GVals] (l : List ByteArray) (h1 : l.length ≤ 140737488355328) (h2 : (Lib.join (l.map (·.data.toList)) [47]).length ≤ 140737488355328) : Comp Tryd.prog 24 [lst strrow l, str slash] (str (joinB l)) := by
  refine ⟨⟨_, Tryd.func24, by decide, rfl⟩, fun κ w ys hR hx => ?_⟩
  obtain ⟨hn, hx⟩ := hx
  obtain ⟨y0, y1, rfl⟩ : ∃ y0 y1, ys = [y0, y1] := by
    match ys, hn with
    | [a, b], _ => exact ⟨a, b, rfl⟩
  have r0 := (hx 0 _ y0 rfl rfl).1
  have r1 := (hx 1 _ y1 rfl rfl).1
  have e1 : y1 = .string slash := by
    cases r1 with | one _ _ hc => cases hc with | d _ _ hd => cases hd with | sc _ _ => rfl
  subst e1
  have hnone : ∀ (a : Option Addr) (cap : Nat), y0 = .slice a 0 cap → l = [] → Calls Tryd.prog 24 #[y0, .string slash] w fun en w' => ∃ x r κ' σ', en = .returned x ∧ (r = str (joinB l) ∧ σ' = []) ∧ RV κ' w' r x ∧ r.under (alive σ') = true ∧ Evo κ w [] κ' w' σ' ∧ RS κ' w' σ' := by
    rintro a cap rfl rfl
    refine (Tryd.strings_Join_none a cap slash w).mono fun en w' ⟨g1, g2⟩ => ?_
    subst g2
    exact ⟨_, _, κ, [], g1, ⟨rfl, rfl⟩, .one _ _ (.d _ _ (.sc _ rfl)), rfl, .refl, hR⟩
  cases r0 with
  | one _ _ hc =>
  cases hc with
  | d _ _ hd =>
  generalize hrows : l.map strrow = rows at hd
  cases hd with
  | nil a cap => exact hnone a cap rfl (by simpa using hrows)
  | list b off cap sz _ vs hcap hrow hcell hrel =>
    by_cases hl : l = []
    · subst hl
      subst hrows
      exact hnone _ cap rfl rfl
    · have hlen : rows.length = l.length := by rw [← hrows]; simp
      have hsz : sz = 1 := by
        obtain ⟨x, r, rfl⟩ : ∃ x r, l = x :: r := by
          cases l with
          | nil => exact absurd rfl hl
          | cons x r => exact ⟨x, r, rfl⟩
        have := hrow 0 (strrow x) (by rw [← hrows]; rfl)
        exact this.symm
      subst hsz
      have hat : ∀ (j : Nat) x, l[j]? = some x → κ.S b (off + j) ∧ w.cell? ⟨b, off + j, none⟩ = some (.string x) := by
        intro j x hj
        have hr : rows[j]? = some (strrow x) := by rw [← hrows, List.getElem?_map, hj]; rfl
        obtain ⟨g1, g2⟩ := hcell j 0 _ _ hr rfl
        have g3 := hrel j 0 _ _ hr rfl
        rw [Nat.mul_one, Nat.add_zero] at g1 g2
        refine ⟨g1, ?_⟩
        have : vs j 0 = .string x := by
          generalize vs j 0 = v at g3
          cases g3 with | sc _ _ => rfl
        rw [this] at g2
        exact g2
      have hb : b < w.heap.size := by
        obtain ⟨x, hx0⟩ : ∃ x, l[0]? = some x := by
          cases l with
          | nil => exact absurd rfl hl
          | cons x r => exact ⟨x, rfl⟩
        exact hR.inside b _ (hat 0 x hx0).1
      rw [hlen] at hcap ⊢
      refine (Tryd.strings_Join b off cap l slash w (fun j x hj => (hat j x hj).2) hb h1 hcap h2).mono fun en w' ⟨g1, g2⟩ => ?_
      obtain ⟨g3, g4⟩ := below_evo hR g2
      exact ⟨_, _, κ, [], g1, ⟨rfl, rfl⟩, .one _ _ (.d _ _ (.sc _ rfl)), rfl, g3, g4⟩
def lastSlash (s : ByteArray) : Int := Lib.lastIndexByte s 47
theorem lastR [GVals] (s : ByteArray) (hs : s.size < 4611686018427387904) : Comp Tryd.prog 30 [str s, str slash] (int .i64 (lastSlash s)) :=
  comp_still (xs := [.string s, .string slash]) ⟨_, Tryd.func30, by decide, rfl⟩ (fun w => Tryd.strings_LastIndex_one s slash (by decide) hs w) rfl
theorem prefixR [GVals] (s : ByteArray) : Comp Tryd.prog 29 [str s, str slash] (Am.bool (Lib.hasPrefix s.data.toList [47])) :=
  comp_still (xs := [.string s, .string slash]) ⟨_, Tryd.func29, by decide, rfl⟩ (fun w => Tryd.strings_HasPrefix s slash w) rfl
end Go.Proofs.YtcmhpjnafkpofaaDoor
