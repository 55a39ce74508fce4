/- Paths: what is clean stays so. -/
import Derived.Test.YtcmhpjnafkpofaaDoorFl8
set_option linter.unusedVariables false
set_option linter.unusedSimpArgs false
namespace Go.Proofs.YtcmhpjnafkpofaaDoor
open Go Go.Am Go.Proofs
set_option maxRecDepth 10000
set_option maxHeartbeats 4000000
set_option linter.unusedVariables false
set_option linter.unusedSimpArgs false
structure PlainP (x : ByteArray) : Prop where
  a : (x == ⟨#[]⟩) = false
  b : (x == ⟨#[46]⟩) = false
  c : (x == ⟨#[46, 46]⟩) = false
  d : 47 ∉ x.data.toList
theorem clean_plain : ∀ (r out l : List ByteArray), cleanW r out = some l → (∀ x ∈ r, 47 ∉ x.data.toList) → (∀ x ∈ out, PlainP x) → ∀ x ∈ l, PlainP x
  | [], out, l, h, _, ho => by
    rw [cleanW] at h; rw [← Option.some.inj h]; exact ho
  | x :: r, out, l, h, hr, ho => by
    have hr2 : ∀ y ∈ r, 47 ∉ y.data.toList := fun y hy => hr y (List.mem_cons_of_mem _ hy)
    rw [cleanW] at h
    cases h1 : (x == ⟨#[]⟩ || x == ⟨#[46]⟩) with
    | true => rw [h1] at h; exact clean_plain r out l h hr2 ho
    | false =>
      rw [h1] at h
      rw [Bool.or_eq_false_iff] at h1
      cases h2 : x == ⟨#[46, 46]⟩ with
      | true =>
        rw [h2] at h
        cases h3 : out.isEmpty with
        | true => rw [h3] at h; cases h
        | false => rw [h3] at h; exact clean_plain r out.dropLast l h hr2 fun y hy => by rw [List.dropLast_eq_take] at hy; exact ho y (List.mem_of_mem_take hy)
      | false =>
        rw [h2] at h
        refine clean_plain r (out ++ [x]) l h hr2 fun y hy => ?_
        rcases List.mem_append.1 hy with hy | hy
        · exact ho y hy
        · rw [List.mem_singleton] at hy
          rw [hy]
          exact ⟨h1.1, h1.2, h2, hr x (List.mem_cons_self ..)⟩
theorem clean_keep : ∀ (r q acc : List ByteArray), (∀ x ∈ r, PlainP x) → cleanW (r ++ q) acc = cleanW q (acc ++ r)
  | [], q, acc, _ => by rw [List.nil_append, List.append_nil]
  | x :: r, q, acc, h => by
    have hx := h x (List.mem_cons_self ..)
    rw [List.cons_append, cleanW, hx.a, hx.b, hx.c]
    show cleanW (r ++ q) (acc ++ [x]) = _
    rw [clean_keep r q (acc ++ [x]) fun y hy => h y (List.mem_cons_of_mem _ hy), List.append_assoc]; rfl
theorem split_no : ∀ (l : List UInt8), ∀ x ∈ splitL l, 47 ∉ x
  | [], x, hx => by
    rw [splitL, List.mem_singleton] at hx
    rw [hx]; simp
  | c :: r, x, hx => by
    have ih := split_no r
    rw [splitL] at hx
    by_cases h : c = 47
    · rw [if_pos h] at hx
      rcases List.mem_cons.1 hx with rfl | hx
      · simp
      · exact ih x hx
    · rw [if_neg h] at hx
      cases hs : splitL r with
      | nil => exact absurd hs (split_ne r)
      | cons y ys =>
        rw [hs] at hx ih
        rcases List.mem_cons.1 hx with rfl | hx
        · intro hm
          rcases List.mem_cons.1 hm with e | hm
          · exact h e.symm
          · exact ih y (List.mem_cons_self ..) hm
        · exact ih x (List.mem_cons_of_mem _ hx)
theorem pieces_no (s : ByteArray) : ∀ x ∈ pieces s, 47 ∉ x.data.toList := by
  intro x hx
  obtain ⟨l, hl, rfl⟩ := List.mem_map.1 hx
  exact split_no _ l hl
theorem split_plain {l : List UInt8} (h : 47 ∉ l) : splitL l = [l] := split_end l fun k e => h (List.mem_of_getElem? e)
theorem pieces_join : ∀ l : List ByteArray, l ≠ [] → (∀ x ∈ l, 47 ∉ x.data.toList) → pieces (joinB l) = l
  | [], h, _ => absurd rfl h
  | [x], _, h => by
    rw [join_one]
    unfold pieces
    rw [split_plain (h x (List.mem_cons_self ..))]; rfl
  | x :: y :: r, _, h => by
    have ih := pieces_join (y :: r) (by simp) fun z hz => h z (List.mem_cons_of_mem _ hz)
    have e : (joinB (x :: y :: r)).data.toList = x.data.toList ++ 47 :: (joinB (y :: r)).data.toList := by
      unfold joinB
      rw [ba_data, ba_data, List.map_cons, List.map_cons, Lib.join_cons, Lib.join_cons]
      simp [Lib.joinTail]
    unfold pieces at ih ⊢
    rw [e, split_mid, split_plain (h x (List.mem_cons_self ..)), List.map_append, ih]; rfl
/-- a path that is clean: its parts -/
theorem clean_parts {s x : ByteArray} (h : cleanA s = (x, true)) : ∃ l : List ByteArray, l ≠ [] ∧ (∀ y ∈ l, PlainP y) ∧ x = joinB l ∧ pieces x = l := by
  unfold cleanA at h
  cases hc : cleanW (pieces s) [] with
  | none => rw [hc] at h; cases h
  | some l =>
    cases l with
    | nil => rw [hc] at h; cases h
    | cons a r =>
      rw [hc] at h
      have hp := clean_plain _ _ _ hc (pieces_no s) fun x hx => by cases hx
      have hx : x = joinB (a :: r) := (congrArg Prod.fst h).symm
      exact ⟨a :: r, by simp, hp, hx, by rw [hx]; exact pieces_join _ (by simp) fun y hy => (hp y hy).d⟩
theorem clean_of {s : ByteArray} {l : List ByteArray} (h : cleanW (pieces s) [] = some l) (hne : l ≠ []) : cleanA s = (joinB l, true) := by
  unfold cleanA
  rw [h]
  cases l with
  | nil => exact absurd rfl hne
  | cons a r => rfl
theorem clean_again {s x : ByteArray} (h : cleanA s = (x, true)) : cleanA x = (x, true) := by
  obtain ⟨l, h1, h2, h3, h4⟩ := clean_parts h
  have := clean_keep l [] [] h2
  rw [List.append_nil] at this
  have h5 := clean_of (s := x) (l := l) (by rw [h4, this]; rfl) h1
  rw [h5, ← h3]
/-! as far up as a path has parts -/
def upL : Nat → List UInt8
  | 0 => []
  | n + 1 => upL n ++ [47, 46, 46]
theorem up_len : ∀ n, (upL n).length = 3 * n
  | 0 => rfl
  | n + 1 => by rw [upL, List.length_append, up_len n]; simp; omega
theorem split_up (l : List UInt8) : ∀ n, splitL (l ++ upL n) = splitL l ++ List.replicate n [46, 46]
  | 0 => by rw [upL, List.append_nil]; simp
  | n + 1 => by
    rw [upL, ← List.append_assoc]
    show splitL ((l ++ upL n) ++ 47 :: [46, 46]) = _
    rw [split_mid, split_up l n, List.replicate_succ', ← List.append_assoc]; rfl
theorem clean_up (A : List ByteArray) : ∀ (n : Nat) (B : List ByteArray), B.length = n → cleanW (List.replicate n (ba [46, 46])) (A ++ B) = some A
  | 0, B, h => by
    have : B = [] := List.length_eq_zero_iff.1 h
    rw [this, List.append_nil]; rfl
  | n + 1, B, h => by
    have hB : B ≠ [] := by intro e; rw [e] at h; cases h
    have h1 : (A ++ B).isEmpty = false := by
      cases A with
      | nil => cases B with
        | nil => exact absurd rfl hB
        | cons b r => rfl
      | cons a r => rfl
    rw [List.replicate_succ, cleanW]
    have e1 : (ba [46, 46] == (⟨#[]⟩ : ByteArray)) = false := by decide
    have e2 : (ba [46, 46] == (⟨#[46]⟩ : ByteArray)) = false := by decide
    have e3 : (ba [46, 46] == (⟨#[46, 46]⟩ : ByteArray)) = true := by decide
    rw [e1, e2, e3, h1]
    show cleanW (List.replicate n (ba [46, 46])) (A ++ B).dropLast = some A
    rw [List.dropLast_append_of_ne_nil hB]
    exact clean_up A n B.dropLast (by rw [List.length_dropLast, h]; rfl)
def cntU : Nat → List UInt8 → Nat
  | _, [] => 0
  | i, c :: r => (if i = 0 ∨ c = 47 then 1 else 0) + cntU (i + 1) r
theorem cnt_pos : ∀ (l : List UInt8) (i : Nat), 0 < i → cntU i l = l.count 47
  | [], _, _ => rfl
  | c :: r, i, h => by
    rw [cntU, cnt_pos r (i + 1) (by omega), List.count_cons]
    by_cases hc : c = 47
    · simp [hc]; omega
    · have : ¬ (i = 0 ∨ c = 47) := by rintro (h1 | h1); omega; exact hc h1
      rw [if_neg this]; simp [hc]
theorem split_count : ∀ l : List UInt8, (splitL l).length = l.count 47 + 1
  | [] => rfl
  | c :: r => by
    have ih := split_count r
    rw [splitL, List.count_cons]
    by_cases hc : c = 47
    · rw [if_pos hc]; simp [hc, ih]
    · rw [if_neg hc]
      cases hs : splitL r with
      | nil => exact absurd hs (split_ne r)
      | cons x xs => rw [hs] at ih; simp [hc] at ih ⊢; exact ih
theorem cnt_parts {y : ByteArray} {l : List ByteArray} (h : pieces y = l) (hp : ∀ x ∈ l, PlainP x) : cntU 0 y.data.toList = l.length := by
  have hl : l.length = y.data.toList.count 47 + 1 := by
    rw [← h]; unfold pieces; rw [List.length_map]; exact split_count _
  cases hy : y.data.toList with
  | nil =>
    unfold pieces at h
    rw [hy] at h
    have h : [ba []] = l := h
    have := (hp (ba []) (by rw [← h]; simp)).a
    exact absurd this (by decide)
  | cons c r =>
    have hc : c ≠ 47 := by
      intro e
      unfold pieces at h
      rw [hy, e] at h
      have h : (ba [] :: (splitL r).map ba) = l := by rw [← h]; simp [splitL]
      have := (hp (ba []) (by rw [← h]; simp)).a
      exact absurd this (by decide)
    rw [hl, hy, cntU, cnt_pos r 1 (by omega), List.count_cons]
    simp [hc]; omega
theorem up_back {a b x y : ByteArray} (hx : cleanA a = (x, true)) (hy : cleanA b = (y, true)) : cleanA (x ++ slash ++ y ++ ba (upL (cntU 0 y.data.toList))) = (x, true) := by
  obtain ⟨la, h1, h2, h3, h4⟩ := clean_parts hx
  obtain ⟨lb, k1, k2, k3, k4⟩ := clean_parts hy
  have hc := cnt_parts k4 k2
  have e : pieces (x ++ slash ++ y ++ ba (upL (cntU 0 y.data.toList))) = la ++ (lb ++ List.replicate lb.length (ba [46, 46])) := by
    unfold pieces at h4 k4 ⊢
    have e0 : (x ++ slash ++ y ++ ba (upL (cntU 0 y.data.toList))).data.toList = x.data.toList ++ 47 :: (y.data.toList ++ upL (cntU 0 y.data.toList)) := by
      rw [app_list, app_list, app_list]
      show ((x.data.toList ++ [47]) ++ y.data.toList) ++ upL _ = _
      simp
    rw [e0, split_mid, split_up, List.map_append, List.map_append, h4, k4, hc, List.map_replicate]
  rw [clean_of (l := la) (by rw [e, clean_keep la _ _ h2, clean_keep lb _ _ k2, List.nil_append]; exact clean_up la lb.length lb rfl) h1, ← h3]
theorem join_root (x b : ByteArray) : joinA x (slash ++ b) = cleanA b := by
  unfold joinA
  have h1 : Lib.hasPrefix (slash ++ b).data.toList [47] = true := by
    rw [prefix_at, app_list]; rfl
  rw [h1, cond_true]
  have h2 : pieces (slash ++ b) = ba [] :: pieces b := by
    unfold pieces
    rw [app_list]
    show (splitL (47 :: b.data.toList)).map ba = _
    simp [splitL]
  unfold cleanA
  rw [h2, cleanW, show (ba [] == (⟨#[]⟩ : ByteArray)) = true by decide]; rfl
end Go.Proofs.YtcmhpjnafkpofaaDoor
