/- Many spans, cut at any numbers: what they are, and how many steps their code takes. -/
import Derived.Test.YtcplpllbinilmaaLnd
import Derived.Test.YtcplpllbinilmaaChkp
set_option linter.unusedVariables false
set_option linter.unusedSimpArgs false
namespace Go.Proofs.Ytcplpllbinilmaa
open Go Go.Am Go.Proofs
set_option maxRecDepth 10000
set_option maxHeartbeats 4000000
set_option linter.unusedVariables false
set_option linter.unusedSimpArgs false
/-- spans so far: n cuts in all, i spans, the next one begins at fr -/
structure CutI (n : Nat) (S : List Span) (i : Nat) (fr : Int) : Prop where
  len : S.length = i
  le : i ≤ n + 1
  bare : ∀ x ∈ S, x.steps = []
  act : ∀ (j : Nat) (x : Span), S[j]? = some x → x.act = ⟨4, j⟩
  ok : ∀ R, spansOk 0 (S ++ R) = spansOk fr R
  fr : 0 ≤ fr ∧ (i ≤ n → fr < 2 ^ 32) ∧ (n < i → fr = 2 ^ 32)
  rng : ∀ x ∈ S, (0 ≤ x.lo ∧ x.lo < 2 ^ 32) ∧ (0 ≤ x.hi ∧ x.hi < 2 ^ 32)
theorem cut0 (n : Nat) : CutI n [] 0 0 := ⟨rfl, Nat.zero_le _, fun x hx => (by cases hx), fun j x h => (by cases h), fun R => rfl, ⟨Int.le_refl 0, fun _ => by decide, fun h => by omega⟩, fun x hx => (by cases hx)⟩
def cutX (fr c : Int) (i : Nat) : Span := ⟨fr, c, [], ⟨4, i⟩⟩
theorem cut_next {n : Nat} {S : List Span} {i : Nat} {fr c : Int} (h : CutI n S i fr) (hn : n ≤ 60) (hi : i ≤ n) (h1 : fr ≤ c) (h2 : c < 2 ^ 32) (h3 : i < n → c < 2 ^ 32 - 1) (h4 : i = n → c = 2 ^ 32 - 1) : CutI n (S ++ [cutX fr c i]) (i + 1) (c + 1) := by
  have h0 := h.fr.1
  have hfr := h.fr.2.1 hi
  refine ⟨by rw [List.length_append, h.len]; rfl, by omega, fun x hx => ?_, fun j x hx => ?_, fun R => ?_, ⟨by omega, fun h => by have := h3 (by omega); omega, fun h => by have := h4 (by omega); omega⟩, fun x hx => ?_⟩
  · rcases List.mem_append.1 hx with hx | hx
    · exact h.bare x hx
    · rw [List.mem_singleton] at hx; subst hx; rfl
  · by_cases hj : j < S.length
    · rw [List.getElem?_append_left hj] at hx
      exact h.act j x hx
    · rw [List.getElem?_append_right (by omega)] at hx
      have hj2 : j = i := by
        have := (List.getElem?_eq_some_iff.1 hx).1
        simp only [List.length_singleton] at this
        have := h.len; omega
      have e : j - S.length = 0 := by have := h.len; omega
      rw [e] at hx
      have hx : some (cutX fr c i) = some x := hx
      rw [← Option.some.inj hx, hj2]; rfl
  · rw [List.append_assoc, h.ok]
    show (bif !(fr == fr) then false else bif decide (c < fr) then false else bif !(spanOk (cutX fr c i)) then false else spansOk (c + 1) R) = spansOk (c + 1) R
    have e1 : decide (c < fr) = false := by rw [decide_eq_false_iff_not]; omega
    have e2 : spanOk (cutX fr c i) = true := by
      show (true && (actN 4 (i : Int)).isSome) = true
      have : actN 4 (i : Int) = some (327680 + (i : Int)) := by
        unfold actN
        simp only [show ¬ (4 : Int) = 1 by decide, show ¬ (4 : Int) = 2 by decide, show ¬ (4 : Int) = 3 by decide, if_false, if_true]
        rw [if_neg (by omega)]
      rw [this]; rfl
    rw [e1, e2, beq_self_eq_true]; rfl
  · rcases List.mem_append.1 hx with hx | hx
    · exact h.rng x hx
    · rw [List.mem_singleton] at hx; subst hx
      exact ⟨⟨h0, hfr⟩, by show 0 ≤ c; omega, h2⟩
theorem act_err (j : Nat) (h : j ≤ 60) : actN 4 (j : Int) = some (327680 + (j : Int)) := by
  unfold actN
  simp only [show ¬ (4 : Int) = 1 by decide, show ¬ (4 : Int) = 2 by decide, show ¬ (4 : Int) = 3 by decide, if_false, if_true]
  rw [if_neg (by omega)]
theorem parts_bare : ∀ l : List Span, (∀ x ∈ l, x.steps = []) → partsC l = l.length ∧ spansN l = l.length
  | [], _ => ⟨rfl, rfl⟩
  | x :: r, h => by
    have ih := parts_bare r fun y hy => h y (by simp [hy])
    have hx := h x (by simp)
    rw [partsC, spansN, hx, ih.1, ih.2]
    refine ⟨?_, ?_⟩
    · show 1 + 0 + r.length = r.length + 1
      omega
    · show 0 + 1 + (r.length : Int) = ((r.length + 1 : Nat) : Int)
      omega
/-! the checker lets all of it in -/
def iB : Item → Prop
  | .lab _ => True
  | .sym x => symB x = true
theorem asm_symB : ∀ (I : List Item) (p : Int), (∀ i ∈ I, iB i) → ∀ x ∈ asm p I, symB x = true
  | [], p, _, x, hx => by cases hx
  | .lab n :: r, p, h, x, hx => by
    have ih := asm_symB r n fun i hi => h i (by simp [hi])
    have hx : x ∈ (bif p == 0 then asm n r else txaS.at_ p :: asm n r) := hx
    cases hp : p == 0 with
    | true => rw [hp] at hx; exact ih x hx
    | false =>
      rw [hp] at hx
      rcases List.mem_cons.1 (show x ∈ txaS.at_ p :: asm n r from hx) with rfl | hx
      · rfl
      · exact ih x hx
  | .sym y :: r, p, h, x, hx => by
    have ih := asm_symB r 0 fun i hi => h i (by simp [hi])
    rcases List.mem_cons.1 (show x ∈ y.at_ p :: asm 0 r from hx) with rfl | hx
    · exact (h (.sym y) (by simp) : symB y = true)
    · exact ih x hx
theorem search_symB (v : Act → Int) : ∀ (k : Nat) (l : List Span) (n : Int), (∀ x ∈ l, x.steps = []) → ∀ i ∈ searchI v k l n, iB i
  | 0, _, _, _, i, hi => by cases hi
  | k + 1, [], n, _, i, hi => by cases hi
  | k + 1, [x], n, h, i, hi => by
    have e : searchI v (k + 1) [x] n = [.sym (retS (v x.act))] := leaf_bare v (h x (by simp)) n
    rw [e, List.mem_singleton] at hi
    subst hi; exact (rfl : symB (retS (v x.act)) = true)
  | k + 1, x :: y :: r, n, h, i, hi => by
    generalize hl : x :: y :: r = l at *
    have e : searchI v (k + 1) l n = .sym ⟨0, n + 1, 0, 53, loAt l (l.length / 2)⟩ :: (searchI v k (l.take (l.length / 2)) (n + 1) ++ .lab (n + 1) :: searchI v k (l.drop (l.length / 2)) (n + spansN (l.take (l.length / 2)))) := by rw [← hl]; rfl
    rw [e] at hi
    rcases List.mem_cons.1 hi with rfl | hi
    · exact (rfl : symB ⟨0, n + 1, 0, 53, loAt l (l.length / 2)⟩ = true)
    · rcases List.mem_append.1 hi with hi | hi
      · exact search_symB v k _ _ (fun x hx => h x (List.mem_of_mem_take hx)) i hi
      · rcases List.mem_cons.1 hi with rfl | hi
        · exact True.intro
        · exact search_symB v k _ _ (fun x hx => h x (List.mem_of_mem_drop hx)) i hi
theorem code_symB (v : Act → Int) (arch kill : Int) (l : List Span) (h : ∀ x ∈ l, x.steps = []) : ∀ x ∈ asm 0 (codeI v arch kill l), symB x = true := by
  refine asm_symB _ 0 fun i hi => ?_
  unfold codeI at hi
  rcases List.mem_cons.1 hi with rfl | hi
  · exact (by decide : symB (ldS 4) = true)
  rcases List.mem_cons.1 hi with rfl | hi
  · exact (rfl : symB ⟨0, 1, 0, 21, arch⟩ = true)
  rcases List.mem_cons.1 hi with rfl | hi
  · exact (rfl : symB (retS kill) = true)
  rcases List.mem_cons.1 hi with rfl | hi
  · exact True.intro
  rcases List.mem_cons.1 hi with rfl | hi
  · exact (by decide : symB (ldS 0) = true)
  exact search_symB v l.length l 1 h i hi
def nrD (nr arch : Int) : Dat := ⟨nr, arch, 0, 0, 0, 0, 0, 0, 0⟩
theorem nrD_ok {nr arch : Int} (h1 : 0 ≤ nr ∧ nr < 2 ^ 32) (h2 : 0 ≤ arch ∧ arch < 2 ^ 32) : (nrD nr arch).ok :=
  have z : 0 ≤ (0 : Int) ∧ (0 : Int) < 2 ^ 64 := by decide
  ⟨h1, h2, z, z, z, z, z, z, z⟩
/-- what the spans' code is, linked, and how it runs -/
theorem cut_runs {n : Nat} {S : List Span} (h : CutI n S (n + 1) (2 ^ 32)) (hn : n ≤ 60) {nr arch : Int} (hnr : 0 ≤ nr ∧ nr < 2 ^ 32) (ha : 0 ≤ arch ∧ arch < 2 ^ 32) :
    ∃ (q : List Sym) (out : List Ins) (j : Nat) (x : Span) (N : Int),
      Comp Try.prog 18 [int .u32 arch, lst Span.row S] (.tup [.one (.d (.list (q.map Sym.row))), .one (.d (.sc (.int .i64 0)))]) ∧
      Comp Try.prog 10 [lst Sym.row q] (.tup [.one (.d (.list (out.map Ins.row))), .one (.d (.sc (.int .i64 0)))]) ∧
      Comp Try.prog 15 [lst Ins.row out] (.tup [.one (.d (.sc (.int .i64 (-1)))), .one (.d (.sc (.bool true)))]) ∧
      Comp Try.prog 13 [lst Ins.row out, .agg ((nrD nr arch).row.map .d)] (run3V (327680 + j, N, true)) ∧
      S[j]? = some x ∧ nr ≤ x.hi ∧ (∀ i y, S[i]? = some y → i < j → y.hi < nr) ∧
      ∀ k : Nat, S.length ≤ 2 ^ k → k ≤ 6 → N ≤ 5 + 2 * k := by
  have hok : spansOk 0 S = true := by
    have := h.ok []
    rw [List.append_nil] at this
    rw [this]; rfl
  have hne := ok_ne hok
  have hlen := h.len
  have hrg : ∀ x ∈ S, x.rng := fun x hx s hs => by rw [h.bare x hx] at hs; cases hs
  have hsm : ∀ x ∈ S, x.small := fun x hx => ⟨⟨by rw [h.bare x hx]; decide, fun s hs => by rw [h.bare x hx] at hs; cases hs⟩, (h.rng x hx).1, (h.rng x hx).2⟩
  have hft := ok_fit hok hrg
  obtain ⟨hp, hsn⟩ := parts_bare S h.bare
  have c1 := codeYes arch S (by omega) hsm hok hne hft (by omega) (by omega)
  have hkill : actK ⟨1, 0⟩ = 2147483648 := rfl
  rw [hkill] at c1
  have ho := ok_code actK arch 2147483648 S hne hft
  have hI : codeI actK arch 2147483648 S ≠ [] := by unfold codeI; simp
  have hr := asm_right ho hI
  have hql := Nat.le_trans (asm_len (codeI actK arch 2147483648 S) 0) (code_len actK arch 2147483648 S)
  have hk := asm_k _ 0 (code_k arch 2147483648 ha ⟨by decide, by decide⟩ S fun x hx => ⟨hft x hx, (hsm x hx).2.1⟩)
  have hb := code_symB actK arch 2147483648 S h.bare
  have hd := nrD_ok hnr ha
  have hav := asm_val ho hI (nrD nr arch)
  obtain ⟨x, hx, hx1, hx2⟩ := (ok_all S 0 hok).2.2 nr hnr.1 hnr.2
  rw [code_val (nrD nr arch) (word_nr _ hd.1) (word_arch _ hd.2.1) actK arch 2147483648 S hft (ok_sort hok) x hx hx1 hx2] at hav
  have hcost := fun k hk => code_cost (nrD nr arch) actK arch 2147483648 S hne h.bare k hk ((asm 0 (codeI actK arch 2147483648 S)).length + 1) Mach.zero
  generalize asm 0 (codeI actK arch 2147483648 S) = q at *
  have hf := fin_link hr
  have hol := outL_len hf
  have hsc := sumC_le (linkFa q)
  have hfl := hf.len
  have hpos : 1 ≤ q.length := by
    cases q with
    | nil => unfold rightF at hr; simp at hr
    | cons x r => simp
  have c2 := linkYes q (by omega) hr
  have c3 := link_checks (by omega) hr hk hb
  have hout := out_ok (linkM q) (layF 0 (linkFa q)) (linkFa q) (fun n => by have := getI_lay (fa := linkFa q) n; omega) q 0 hk
  have c4 := runR (outL q (linkM q) (linkFa q)) (nrD nr arch) (by omega) hd hout
  obtain ⟨j, hj⟩ := List.mem_iff_getElem?.1 hx
  have hjl : j ≤ 60 := by have := (List.getElem?_eq_some_iff.1 hj).1; omega
  have hval : actK (ledW (nrD nr arch) x.steps x.act) = 327680 + j := by
    rw [h.bare x hx]
    show actK x.act = _
    rw [h.act j x hj]
    show (actN 4 (j : Int)).getD 0 = _
    rw [act_err j hjl]; rfl
  have harch : ((nrD nr arch).arch == arch) = true := by show (arch == arch) = true; simp
  rw [harch, cond_true, hval] at hav
  have hmain : ∀ k : Nat, S.length ≤ 2 ^ k → k ≤ 6 → (runF (outL q (linkM q) (linkFa q)) (nrD nr arch) 4096 0 0 Mach.zero).1 = 327680 + j ∧ (runF (outL q (linkM q) (linkFa q)) (nrD nr arch) 4096 0 0 Mach.zero).2.2 = true ∧ (runF (outL q (linkM q) (linkFa q)) (nrD nr arch) 4096 0 0 Mach.zero).2.1 ≤ 5 + 2 * k := by
    intro k hk hk6
    have hc := hcost k hk
    have hs := link_cost hf (by omega) (nrD nr arch) q.length (q.length + 1) (2 * k + 5) 0 0 Mach.zero (by omega) (by omega) (by omega) hc
    have h0 : posN (linkFa q) 0 = 0 := rfl
    rw [h0, hav] at hs
    obtain ⟨s1, s2⟩ := hs
    obtain ⟨r1, r2⟩ := run_le (outL q (linkM q) (linkFa q)) (nrD nr arch) (2 * k + 5) 0 0 Mach.zero s2
    have r3 := r2 (4096 - (2 * k + 5))
    have e : 2 * k + 5 + (4096 - (2 * k + 5)) = 4096 := by omega
    rw [e] at r3
    rw [r3]
    exact ⟨s1, s2, by omega⟩
  have h64 := hmain 6 (by omega) (by omega)
  generalize runF (outL q (linkM q) (linkFa q)) (nrD nr arch) 4096 0 0 Mach.zero = res at *
  obtain ⟨r1, r2, r3⟩ := res
  obtain ⟨e1, e2, _⟩ := h64
  simp only at e1 e2
  subst e1
  subst e2
  refine ⟨q, _, j, x, r2, c1, c2, c3, c4, hj, hx2, fun i y hy hij => ?_, fun k hk hk6 => (hmain k hk hk6).2.2⟩
  have hpw := (ok_all S 0 hok).2.1
  obtain ⟨hjs, hje⟩ := List.getElem?_eq_some_iff.1 hj
  obtain ⟨his, hie⟩ := List.getElem?_eq_some_iff.1 hy
  have := List.pairwise_iff_getElem.1 hpw i j his hjs hij
  rw [hje, hie] at this
  omega
end Go.Proofs.Ytcplpllbinilmaa
