/- What the code of spans without steps costs: so many instructions as the search is deep. -/
import Derived.Test.YtcplpllbinilmaaLnc
import Derived.Test.YtcplpllbinilmaaEm6
set_option linter.unusedVariables false
set_option linter.unusedSimpArgs false
namespace Go.Proofs.Ytcplpllbinilmaa
open Go Go.Am Go.Proofs
set_option maxRecDepth 10000
set_option maxHeartbeats 4000000
set_option linter.unusedVariables false
set_option linter.unusedSimpArgs false
theorem leaf_bare (v : Act → Int) {x : Span} (h : x.steps = []) (n : Int) : leafI v x n = [.sym (retS (v x.act))] := by
  unfold leafI; rw [h]; rfl
theorem cost_ret (L : List Sym) (d : Dat) (G i : Nat) (m : Mach) {x : Sym} {r : List Sym} (h : L.drop i = x :: r) (hx : x.code = 6) : costS L d G i m ≤ 1 := by
  cases G with
  | zero => exact Nat.zero_le 1
  | succ G =>
    have hx2 : L[i]? = some x := by
      have : (L.drop i)[0]? = some x := by rw [h]; rfl
      rwa [List.getElem?_drop, Nat.add_zero] at this
    rw [costS, hx2]
    simp only [hx]
    exact Nat.le_refl 1
theorem cost_jump (L : List Sym) (d : Dat) (G i : Nat) (m : Mach) {x : Sym} {r : List Sym} {c : Nat} (h : L.drop i = x :: r) (hx : isJumpF x.code = true)
    (ht : ∀ G, costS L d G (nextF L i x.t).toNat m ≤ c) (hf : ∀ G, costS L d G (nextF L i x.f).toNat m ≤ c) : costS L d G i m ≤ 2 + c := by
  cases G with
  | zero => exact Nat.zero_le _
  | succ G =>
    have hx2 : L[i]? = some x := by
      have : (L.drop i)[0]? = some x := by rw [h]; rfl
      rwa [List.getElem?_drop, Nat.add_zero] at this
    obtain ⟨e1, e2, e3⟩ := jump5 hx
    have h1 := ht G
    have h2 := hf G
    rw [costS, hx2]
    simp only [e1, e2, e3, hx, cond_true, cond_false]
    cases jumpsF x.code m.a (withF m x.code x.k) <;> simp only [cond_true, cond_false] <;> omega
theorem cost_plain (L : List Sym) (d : Dat) (G i : Nat) (m : Mach) {x : Sym} {r : List Sym} {c : Nat} (h : L.drop i = x :: r) (hc : x.code = 32)
    (hn : ∀ G m, costS L d G (i + 1) m ≤ c) : costS L d G i m ≤ 1 + c := by
  cases G with
  | zero => exact Nat.zero_le _
  | succ G =>
    have hx2 : L[i]? = some x := by
      have : (L.drop i)[0]? = some x := by rw [h]; rfl
      rwa [List.getElem?_drop, Nat.add_zero] at this
    have h1 := hn G (plainF m x.code x.k d).1
    have e1 : (x.code == 6) = false := by rw [hc]; rfl
    have e2 : (x.code == 22) = false := by rw [hc]; rfl
    have e3 : (x.code == 5) = false := by rw [hc]; rfl
    have e4 : isJumpF x.code = false := by rw [hc]; rfl
    rw [costS, hx2]
    simp only [e1, e2, e3, e4, cond_true, cond_false]
    cases (plainF m x.code x.k d).2.2 <;> cases (plainF m x.code x.k d).2.1 <;> simp only [cond_true, cond_false, Bool.not_true, Bool.not_false] <;> omega
theorem search_cost (L : List Sym) (d : Dat) (v : Act → Int) : ∀ (k : Nat) (l : List Span) (n : Int) (R : List Item) (p : Int) (i G dp : Nat) (m : Mach),
    l ≠ [] → l.length ≤ k → 0 ≤ n → (∀ x ∈ l, x.steps = []) → okI (searchI v k l n ++ R) → L.drop i = asm p (searchI v k l n ++ R) → l.length ≤ 2 ^ dp → costS L d G i m ≤ 2 * dp + 1
  | 0, l, n, R, p, i, G, dp, m, hne, hk, _, _, _, _, _ => by
    cases l with
    | nil => exact absurd rfl hne
    | cons => simp at hk
  | k + 1, [], n, R, p, i, G, dp, m, hne, _, _, _, _, _, _ => absurd rfl hne
  | k + 1, [y], n, R, p, i, G, dp, m, _, _, _, hb, _, hL, _ => by
    have e : searchI v (k + 1) [y] n = [.sym (retS (v y.act))] := leaf_bare v (hb y (by simp)) n
    rw [e] at hL
    have hL : L.drop i = (retS (v y.act)).at_ p :: asm 0 R := hL
    have := cost_ret L d G i m hL rfl
    omega
  | k + 1, y :: z :: r, n, R, p, i, G, dp, m, _, hk, hn, hb, hok, hL, hdp => by
    generalize hl : y :: z :: r = l at *
    have hlen : 2 ≤ l.length := by rw [← hl]; simp
    have e : searchI v (k + 1) l n = .sym ⟨0, n + 1, 0, 53, loAt l (l.length / 2)⟩ :: (searchI v k (l.take (l.length / 2)) (n + 1) ++ .lab (n + 1) :: searchI v k (l.drop (l.length / 2)) (n + spansN (l.take (l.length / 2)))) := by rw [← hl]; rfl
    rw [e] at hL hok
    rw [List.cons_append, List.append_assoc, List.cons_append] at hL hok
    obtain ⟨_, _, _, hok2⟩ := hok
    obtain ⟨dp, rfl⟩ : ∃ q, dp = q + 1 := by
      cases dp with
      | zero => simp only [Nat.pow_zero] at hdp; omega
      | succ q => exact ⟨q, rfl⟩
    rw [Nat.pow_succ] at hdp
    generalize hA : l.take (l.length / 2) = A at *
    generalize hB : l.drop (l.length / 2) = B at *
    have hAl : A.length = l.length / 2 := by rw [← hA, List.length_take]; omega
    have hBl : B.length = l.length - l.length / 2 := by rw [← hB, List.length_drop]
    have hbA : ∀ x ∈ A, x.steps = [] := fun x hx => hb x (List.mem_of_mem_take (hA ▸ hx))
    have hbB : ∀ x ∈ B, x.steps = [] := fun x hx => hb x (List.mem_of_mem_drop (hB ▸ hx))
    have hAne : A ≠ [] := by intro h; rw [h] at hAl; simp only [List.length_nil] at hAl; omega
    have hBne : B ≠ [] := by intro h; rw [h] at hBl; simp only [List.length_nil] at hBl; omega
    have hpa := spansN_pos A
    generalize hr : searchI v k A (n + 1) ++ .lab (n + 1) :: (searchI v k B (n + spansN A) ++ R) = rest at *
    have hL : L.drop i = (⟨0, n + 1, 0, 53, loAt l (l.length / 2)⟩ : Sym).at_ p :: asm 0 rest := hL
    have hL2 : L.drop (i + 1) = asm 0 rest := by rw [← List.drop_drop, hL]; rfl
    have hmem : n + 1 ∈ labsI rest := by
      rw [← hr, labs_app]
      exact List.mem_append_right _ (List.mem_cons_self ..)
    have hg : goto_ (n + 1) rest = searchI v k B (n + spansN A) ++ R := by
      rw [← hr, goto_app (n + 1) _ _ (fun hm => by have := search_gt v k _ _ _ hm; omega)]
      show (bif n + 1 == n + 1 then _ else _) = _
      rw [beq_self_eq_true]; rfl
    obtain ⟨c, h1, h2, h3, h4⟩ := seek_asm (n + 1) (by omega) rest 0 ((i + 1 : Nat) : Int) hok2 (by omega) hmem
    rw [hg] at h2 h4
    have hnx : nextF L i (n + 1) = ((i + 1 + c : Nat) : Int) := by
      unfold nextF placeF
      rw [show (n + 1 == 0) = false from by rw [beq_eq_false_iff_ne]; omega]
      simp only [Bool.false_eq_true, if_false]
      rw [hL2, h1]; omega
    have hn0 : nextF L i 0 = ((i + 1 : Nat) : Int) := by
      unfold nextF
      show (i : Int) + 1 = _
      omega
    have hdr : L.drop (i + 1 + c) = asm (n + 1) (searchI v k B (n + spansN A) ++ R) := by rw [← List.drop_drop, hL2, h2]
    have := cost_jump L d G i m (c := 2 * dp + 1) hL rfl
      (fun G => by
        show costS L d G (nextF L i (n + 1)).toNat m ≤ _
        rw [hnx, Int.toNat_natCast]
        exact search_cost L d v k B _ R (n + 1) _ G dp m hBne (by omega) (by omega) hbB h4 hdr (by omega))
      (fun G => by
        show costS L d G (nextF L i 0).toNat m ≤ _
        rw [hn0, Int.toNat_natCast]
        refine search_cost L d v k A (n + 1) (.lab (n + 1) :: (searchI v k B (n + spansN A) ++ R)) 0 _ G dp m hAne (by omega) (by omega) hbA (by rw [hr]; exact hok2) (by rw [hr]; exact hL2) (by omega))
    omega
/-- the cost of all of it -/
theorem code_cost (d : Dat) (v : Act → Int) (arch kill : Int) (l : List Span) (hl : l ≠ []) (hb : ∀ x ∈ l, x.steps = []) (dp : Nat) (hdp : l.length ≤ 2 ^ dp) (G : Nat) (m : Mach) :
    costS (asm 0 (codeI v arch kill l)) d G 0 m ≤ 2 * dp + 5 := by
  have hok := ok_code v arch kill l hl (fun x hx s hs => by rw [hb x hx] at hs; cases hs)
  have hok2 : okI (searchI v l.length l 1) := hok.2.2.2.2.2.2.2.2.2.2.2.2.2.2.2
  generalize hL : asm 0 (codeI v arch kill l) = L
  have h0 : L.drop 0 = (ldS 4).at_ 0 :: (⟨0, 1, 0, 21, arch⟩ : Sym).at_ 0 :: (retS kill).at_ 0 :: (ldS 0).at_ 1 :: asm 0 (searchI v l.length l 1) := by rw [← hL]; rfl
  have h1 : L.drop 1 = (⟨0, 1, 0, 21, arch⟩ : Sym).at_ 0 :: (retS kill).at_ 0 :: (ldS 0).at_ 1 :: asm 0 (searchI v l.length l 1) := by rw [← hL]; rfl
  have h2 : L.drop 2 = (retS kill).at_ 0 :: (ldS 0).at_ 1 :: asm 0 (searchI v l.length l 1) := by rw [← hL]; rfl
  have h3 : L.drop 3 = (ldS 0).at_ 1 :: asm 0 (searchI v l.length l 1) := by rw [← hL]; rfl
  have h4 : L.drop 4 = asm 0 (searchI v l.length l 1 ++ []) := by rw [← hL, List.append_nil]; rfl
  have n1 : nextF L 1 1 = 3 := by
    unfold nextF placeF
    show seekF 1 (L.drop 2) 2 = 3
    rw [h2]; rfl
  have n0 : nextF L 1 0 = 2 := rfl
  have := cost_plain L d G 0 m (c := 2 * dp + 4) h0 rfl fun G m => by
    have := cost_jump L d G 1 m (c := 2 * dp + 2) h1 rfl
      (fun G => by
        show costS L d G (nextF L 1 1).toNat m ≤ _
        rw [n1]
        have := cost_plain L d G 3 m (c := 2 * dp + 1) h3 rfl fun G m => by
          exact search_cost L d v l.length l 1 [] 0 4 G dp m hl (Nat.le_refl _) (by decide) hb (by rw [List.append_nil]; exact hok2) h4 hdp
        exact Nat.le_trans this (by omega))
      (fun G => by
        show costS L d G (nextF L 1 0).toNat m ≤ _
        rw [n0]
        have := cost_ret L d G 2 m h2 rfl
        exact Nat.le_trans this (by omega))
    show costS L d G 1 m ≤ _
    omega
  omega
end Go.Proofs.Ytcplpllbinilmaa
