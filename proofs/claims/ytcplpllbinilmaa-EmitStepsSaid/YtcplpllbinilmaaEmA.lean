/- spt em1 em2 em3 em4 em5, as one text. -/
import Derived.Test.YtcplpllbinilmaaTypes
import Derived.Test.YtcplpllbinilmaaLab9
import Derived.Test.YtcplpllbinilmaaLab8
import Derived.Test.YtcplpllbinilmaaLab7
set_option linter.unusedVariables false
set_option linter.unusedSimpArgs false
/- Halves, steps, spans: their data. -/
namespace Go.Proofs.Ytcplpllbinilmaa
open Go Go.Am Go.Proofs
structure Half where
  arg : Int
  op : Int
  high : Bool
  mask : Int
  value : Int
def Half.row (x : Half) : List D := [.sc (.int .i64 x.arg), .sc (.int .i64 x.op), .sc (.bool x.high), .sc (.int .u32 x.mask), .sc (.int .u32 x.value)]
/-- a clause, as an element of a list -/
def crow (c : List Half) : List D := [.list (c.map Half.row)]
structure Stp where
  clauses : List (List Half)
  act : Act
def Stp.row (x : Stp) : List D := [.list (x.clauses.map crow), .sc (.int .i64 x.act.kind), .sc (.int .i64 x.act.data)]
structure Span where
  lo : Int
  hi : Int
  steps : List Stp
  act : Act
def Span.row (x : Span) : List D := [.sc (.int .u32 x.lo), .sc (.int .u32 x.hi), .list (x.steps.map Stp.row), .sc (.int .i64 x.act.kind), .sc (.int .i64 x.act.data)]
end Go.Proofs.Ytcplpllbinilmaa
/- Code with labels as a list of items: labels and symbols; how it is put together, and how it runs. -/
namespace Go.Proofs.Ytcplpllbinilmaa
open Go Go.Am Go.Proofs
set_option maxRecDepth 10000
set_option maxHeartbeats 4000000
set_option linter.unusedVariables false
set_option linter.unusedSimpArgs false
inductive Item where
  | lab (n : Int)
  | sym (x : Sym)
def txaS : Sym := ⟨0, 0, 0, 135, 0⟩
def Sym.at_ (x : Sym) (p : Int) : Sym := ⟨p, x.t, x.f, x.code, x.k⟩
def asm : Int → List Item → List Sym
  | _, [] => []
  | p, .lab n :: r => bif p == 0 then asm n r else txaS.at_ p :: asm n r
  | p, .sym x :: r => x.at_ p :: asm 0 r
def pend : Int → List Item → Int
  | p, [] => p
  | _, .lab n :: r => pend n r
  | _, .sym _ :: r => pend 0 r
theorem asm_app : ∀ (a b : List Item) (p : Int), asm p (a ++ b) = asm p a ++ asm (pend p a) b
  | [], b, p => rfl
  | .lab n :: a, b, p => by
    show (bif p == 0 then asm n (a ++ b) else txaS.at_ p :: asm n (a ++ b)) = (bif p == 0 then asm n a else txaS.at_ p :: asm n a) ++ asm (pend n a) b
    rw [asm_app a b n]
    cases p == 0 <;> rfl
  | .sym x :: a, b, p => by
    show x.at_ p :: asm 0 (a ++ b) = (x.at_ p :: asm 0 a) ++ asm (pend 0 a) b
    rw [asm_app a b 0]; rfl
theorem pend_app : ∀ (a b : List Item) (p : Int), pend p (a ++ b) = pend (pend p a) b
  | [], b, p => rfl
  | .lab n :: a, b, p => pend_app a b n
  | .sym x :: a, b, p => pend_app a b 0
/-- what stands behind a label -/
def goto_ (n : Int) : List Item → List Item
  | [] => []
  | .lab m :: r => bif m == n then r else goto_ n r
  | .sym _ :: r => goto_ n r
def labsI : List Item → List Int
  | [] => []
  | .lab n :: r => n :: labsI r
  | .sym _ :: r => labsI r
theorem labs_app : ∀ a b : List Item, labsI (a ++ b) = labsI a ++ labsI b
  | [], b => rfl
  | .lab n :: a, b => by show n :: labsI (a ++ b) = _; rw [labs_app a b]; rfl
  | .sym x :: a, b => labs_app a b
theorem goto_len (n : Int) : ∀ r : List Item, (goto_ n r).length ≤ r.length
  | [] => Nat.le_refl _
  | .lab m :: r => by
    show (bif m == n then r else goto_ n r).length ≤ r.length + 1
    have := goto_len n r
    cases m == n <;> simp only [cond_true, cond_false] <;> omega
  | .sym _ :: r => by
    show (goto_ n r).length ≤ r.length + 1
    have := goto_len n r
    omega
theorem goto_app (n : Int) : ∀ a b : List Item, n ∉ labsI a → goto_ n (a ++ b) = goto_ n b
  | [], b, _ => rfl
  | .lab m :: a, b, h => by
    show (bif m == n then a ++ b else goto_ n (a ++ b)) = goto_ n b
    have h1 : ¬ n = m ∧ n ∉ labsI a := by
      constructor
      · intro e; exact h (by rw [e]; show m ∈ m :: labsI a; simp)
      · intro e; exact h (by show n ∈ m :: labsI a; simp [e])
    have : (m == n) = false := by rw [beq_eq_false_iff_ne]; exact fun e => h1.1 e.symm
    rw [this]
    exact goto_app n a b h1.2
  | .sym x :: a, b, h => goto_app n a b h
/-- where a jump leads -/
def to_ (n : Int) (r : List Item) : List Item := bif n == 0 then r else goto_ n r
/-- how items run: so many steps at most; tx: a label is pending -/
def runI (d : Dat) : Nat → Bool → List Item → Mach → Int × Bool
  | 0, _, _, _ => (0, false)
  | _ + 1, _, [], _ => (0, false)
  | g + 1, tx, .lab _ :: r, m => runI d g true r (bif tx then (plainF m 135 0 d).1 else m)
  | g + 1, _, .sym x :: r, m =>
    bif x.code == 6 then (x.k, true)
    else bif x.code == 22 then (m.a, true)
    else bif x.code == 5 then runI d g (!(x.t == 0)) (to_ x.t r) m
    else bif isJumpF x.code then
      bif jumpsF x.code m.a (withF m x.code x.k) then runI d g (!(x.t == 0)) (to_ x.t r) m else runI d g (!(x.f == 0)) (to_ x.f r) m
    else bif (plainF m x.code x.k d).2.2 then (0, true)
    else bif !(plainF m x.code x.k d).2.1 then (0, false)
    else runI d g false r (plainF m x.code x.k d).1
/-- items that may be: each label but once, above 0; jumps lead on -/
def okJ (x : Sym) (r : List Item) : Prop :=
  (x.code = 5 → x.t ∈ labsI r) ∧ (isJumpF x.code = true → (x.t = 0 ∨ x.t ∈ labsI r) ∧ (x.f = 0 ∨ x.f ∈ labsI r))
def okI : List Item → Prop
  | [] => True
  | .lab n :: r => 0 < n ∧ n ∉ labsI r ∧ r ≠ [] ∧ okI r
  | .sym x :: r => codeOk x.code = true ∧ okJ x r ∧ (r = [] → endsF x.code = true) ∧ okI r
theorem asm_ne (p : Int) : ∀ r : List Item, okI r → r ≠ [] → asm p r ≠ []
  | [], _, h => absurd rfl h
  | .lab n :: r, h, _ => by
    show (bif p == 0 then asm n r else txaS.at_ p :: asm n r) ≠ []
    cases p == 0 with
    | true => exact asm_ne n r h.2.2.2 h.2.2.1
    | false => exact List.cons_ne_nil _ _
  | .sym x :: r, _, _ => List.cons_ne_nil _ _
theorem asm_head (p : Int) : ∀ r : List Item, (∃ n r', r = .lab n :: r') ∨ r = [] ∨ ∃ x r', r = .sym x :: r' 
  | [] => .inr (.inl rfl)
  | .lab n :: r => .inl ⟨n, r, rfl⟩
  | .sym x :: r => .inr (.inr ⟨x, r, rfl⟩)
/-- the symbol of a label, among those put together -/
theorem seek_asm (n : Int) (hn : 0 < n) : ∀ (r : List Item) (p j : Int), okI r → p ≠ n → n ∈ labsI r → ∃ c : Nat, seekF n (asm p r) j = j + c ∧ (asm p r).drop c = asm n (goto_ n r) ∧ goto_ n r ≠ [] ∧ okI (goto_ n r)
  | [], p, j, _, _, h => by cases h
  | .lab m :: r, p, j, hok, hp, hmem => by
    have hh : ∀ (p' : Int) (c : Nat), p' ≠ n → seekF n (txaS.at_ p' :: asm m r) j = seekF n (asm m r) (j + 1) := by
      intro p' c h
      rw [seekF]
      have : ((txaS.at_ p').label == n) = false := by rw [beq_eq_false_iff_ne]; exact h
      rw [this]; rfl
    by_cases hm : m = n
    · subst hm
      have hg : goto_ m (.lab m :: r) = r := by show (bif m == m then r else goto_ m r) = r; rw [beq_self_eq_true]; rfl
      rw [hg]
      -- the first symbol behind has the label
      have hfirst : ∀ j : Int, seekF m (asm m r) j = j := by
        intro j
        have hne := asm_ne m r hok.2.2.2 hok.2.2.1
        cases r with
        | nil => exact absurd rfl hok.2.2.1
        | cons x r =>
          cases x with
          | lab q =>
            show seekF m (bif m == 0 then asm q r else txaS.at_ m :: asm q r) j = j
            have : (m == 0) = false := by rw [beq_eq_false_iff_ne]; omega
            rw [this]
            simp only [cond_false]
            rw [seekF]
            show (if (m == m) = true then j else _) = j
            rw [beq_self_eq_true]; rfl
          | sym x =>
            show seekF m (x.at_ m :: asm 0 r) j = j
            rw [seekF]
            show (if (m == m) = true then j else _) = j
            rw [beq_self_eq_true]; rfl
      show ∃ c : Nat, seekF m (bif p == 0 then asm m r else txaS.at_ p :: asm m r) j = j + c ∧ (bif p == 0 then asm m r else txaS.at_ p :: asm m r).drop c = asm m r ∧ r ≠ [] ∧ okI r
      cases p == 0 with
      | true => exact ⟨0, by rw [cond_true, hfirst]; simp, rfl, hok.2.2.1, hok.2.2.2⟩
      | false =>
        refine ⟨1, ?_, rfl, hok.2.2.1, hok.2.2.2⟩
        rw [cond_false, hh p 0 hp, hfirst]; rfl
    · have hmem2 : n ∈ labsI r := by
        rcases List.mem_cons.1 (show n ∈ m :: labsI r from hmem) with h | h
        · exact absurd h.symm hm
        · exact h
      have hg : goto_ n (.lab m :: r) = goto_ n r := by
        show (bif m == n then r else goto_ n r) = goto_ n r
        rw [show (m == n) = false from by rw [beq_eq_false_iff_ne]; exact hm]; rfl
      rw [hg]
      show ∃ c : Nat, seekF n (bif p == 0 then asm m r else txaS.at_ p :: asm m r) j = j + c ∧ (bif p == 0 then asm m r else txaS.at_ p :: asm m r).drop c = asm n (goto_ n r) ∧ goto_ n r ≠ [] ∧ okI (goto_ n r)
      cases p == 0 with
      | true => exact seek_asm n hn r m j hok.2.2.2 hm hmem2
      | false =>
        obtain ⟨c, h1, h2, h3⟩ := seek_asm n hn r m (j + 1) hok.2.2.2 hm hmem2
        exact ⟨c + 1, by rw [cond_false, hh p 0 hp, h1]; omega, h2, h3⟩
  | .sym x :: r, p, j, hok, hp, hmem => by
    obtain ⟨c, h1, h2, h3⟩ := seek_asm n hn r 0 (j + 1) hok.2.2.2 (by omega) hmem
    refine ⟨c + 1, ?_, h2, h3⟩
    show seekF n (x.at_ p :: asm 0 r) j = _
    rw [seekF]
    have : ((x.at_ p).label == n) = false := by rw [beq_eq_false_iff_ne]; exact hp
    rw [this]
    simp only [Bool.false_eq_true, if_false]
    rw [h1]; omega
/-- labels are above 0 -/
theorem labs_pos : ∀ r : List Item, okI r → ∀ n ∈ labsI r, 0 < n
  | [], _, n, h => by cases h
  | .lab m :: r, hok, n, h => by
    rcases List.mem_cons.1 (show n ∈ m :: labsI r from h) with rfl | h
    · exact hok.1
    · exact labs_pos r hok.2.2.2 n h
  | .sym x :: r, hok, n, h => labs_pos r hok.2.2.2 n h
theorem jump5 {c : Int} (h : isJumpF c = true) : (c == 6) = false ∧ (c == 22) = false ∧ (c == 5) = false := by
  unfold isJumpF at h
  simp only [Bool.or_eq_true, beq_iff_eq] at h
  rcases h with ((((((h | h) | h) | h) | h) | h) | h) | h <;> subst h <;> decide
/-- what is put together runs as the items do -/
theorem asm_run (L : List Sym) (d : Dat) : ∀ (g : Nat) (I : List Item) (p : Int) (i G : Nat) (m : Mach), I.length < g → okI I → I ≠ [] → 0 ≤ p → L.drop i = asm p I → (asm p I).length < G → (∀ q ∈ labsI I, q ≠ p) → runSyms L d G i m = runI d g (!(p == 0)) I m
  | 0, I, p, i, G, m, h, _, _, _, _, _, _ => by omega
  | g + 1, [], p, i, G, m, _, _, h, _, _, _, _ => absurd rfl h
  | g + 1, .lab n :: r, p, i, G, m, hg, hok, _, hp, hL, hG, hpn => by
    simp only [List.length_cons] at hg
    have hnr : ∀ q ∈ labsI r, q ≠ n := fun q hq e => hok.2.1 (e ▸ hq)
    show _ = runI d g true r (bif !(p == 0) then (plainF m 135 0 d).1 else m)
    have hn0 : (!(n == 0)) = true := by
      rw [show (n == 0) = false from by rw [beq_eq_false_iff_ne]; have := hok.1; omega]; rfl
    have hL : L.drop i = bif p == 0 then asm n r else txaS.at_ p :: asm n r := hL
    have hG : (bif p == 0 then asm n r else txaS.at_ p :: asm n r).length < G := hG
    cases hp0 : p == 0 with
    | true =>
      rw [hp0] at hL hG
      have := asm_run L d g r n i G m (by omega) hok.2.2.2 hok.2.2.1 (by have := hok.1; omega) hL hG hnr
      rw [this, hn0]; rfl
    | false =>
      rw [hp0] at hL hG
      simp only [cond_false, List.length_cons] at hL hG
      obtain ⟨G, rfl⟩ : ∃ k, G = k + 1 := ⟨G - 1, by omega⟩
      have hx : L[i]? = some (txaS.at_ p) := by
        have : (L.drop i)[0]? = some (txaS.at_ p) := by rw [hL]; rfl
        rwa [List.getElem?_drop, Nat.add_zero] at this
      have hL2 : L.drop (i + 1) = asm n r := by rw [← List.drop_drop, hL]; rfl
      rw [runSyms, hx]
      have := asm_run L d g r n (i + 1) G (plainF m 135 0 d).1 (by omega) hok.2.2.2 hok.2.2.1 (by have := hok.1; omega) hL2 (by omega) hnr
      rw [hn0] at this
      exact this
  | g + 1, .sym x :: r, p, i, G, m, hg, hok, _, hp, hL, hG, hpn => by
    simp only [List.length_cons] at hg
    have hL : L.drop i = x.at_ p :: asm 0 r := hL
    have hG : (x.at_ p :: asm 0 r).length < G := hG
    simp only [List.length_cons] at hG
    obtain ⟨G, rfl⟩ : ∃ k, G = k + 1 := ⟨G - 1, by omega⟩
    have hx : L[i]? = some (x.at_ p) := by
      have : (L.drop i)[0]? = some (x.at_ p) := by rw [hL]; rfl
      rwa [List.getElem?_drop, Nat.add_zero] at this
    have hL2 : L.drop (i + 1) = asm 0 r := by rw [← List.drop_drop, hL]; rfl
    have hpos := labs_pos r hok.2.2.2
    -- a jump to a label
    have jump : ∀ t : Int, (t = 0 ∧ r ≠ []) ∨ t ∈ labsI r → runSyms L d G (nextF L i t).toNat m = runI d g (!(t == 0)) (to_ t r) m := by
      intro t ht
      rcases ht with ⟨rfl, hne⟩ | ht
      · show runSyms L d G (i + 1 : Int).toNat m = runI d g false r m
        rw [show ((i : Int) + 1).toNat = i + 1 from by omega]
        exact asm_run L d g r 0 (i + 1) G m (by omega) hok.2.2.2 hne (Int.le_refl 0) hL2 (by omega) (fun q hq e => by have := hpos q hq; omega)
      · have htp := hpos t ht
        have ht0 : (t == 0) = false := by rw [beq_eq_false_iff_ne]; omega
        obtain ⟨c, h1, h2, h3, h4⟩ := seek_asm t htp r 0 ((i + 1 : Nat) : Int) hok.2.2.2 (by omega) ht
        have hn : nextF L i t = ((i + 1 + c : Nat) : Int) := by
          unfold nextF placeF
          rw [ht0]
          simp only [Bool.false_eq_true, if_false]
          rw [hL2, h1]; omega
        rw [hn, Int.toNat_natCast, ht0]
        have hto : to_ t r = goto_ t r := by unfold to_; rw [ht0]; rfl
        rw [hto]
        have hdr : L.drop (i + 1 + c) = asm t (goto_ t r) := by rw [← List.drop_drop, hL2, h2]
        have hlen := goto_len t r
        have hal : (asm t (goto_ t r)).length ≤ (asm 0 r).length := by rw [← h2, List.length_drop]; omega
        have hnot : ∀ q ∈ labsI (goto_ t r), q ≠ t := by
          have hgen : ∀ r : List Item, okI r → ∀ q ∈ labsI (goto_ t r), q ≠ t := by
            intro r
            induction r with
            | nil => intro _ q hq; cases hq
            | cons y r ih =>
              intro hok q hq
              cases y with
              | lab m =>
                have hq : q ∈ labsI (bif m == t then r else goto_ t r) := hq
                cases hm : m == t with
                | true =>
                  rw [hm] at hq
                  simp only [beq_iff_eq] at hm
                  subst hm
                  exact fun e => hok.2.1 (e ▸ hq)
                | false => rw [hm] at hq; exact ih hok.2.2.2 q hq
              | sym y => exact ih hok.2.2.2 q hq
          exact hgen r hok.2.2.2
        have hfin := asm_run L d g (goto_ t r) t (i + 1 + c) G m (by omega) h4 h3 (by omega) hdr (by omega) hnot
        rw [ht0] at hfin
        exact hfin
    rw [runSyms, hx]
    show (bif x.code == 6 then (x.k, true)
      else bif x.code == 22 then (m.a, true)
      else bif x.code == 5 then runSyms L d G (nextF L i x.t).toNat m
      else bif isJumpF x.code then
        bif jumpsF x.code m.a (withF m x.code x.k) then runSyms L d G (nextF L i x.t).toNat m else runSyms L d G (nextF L i x.f).toNat m
      else bif (plainF m x.code x.k d).2.2 then (0, true)
      else bif !(plainF m x.code x.k d).2.1 then (0, false)
      else runSyms L d G (i + 1) (plainF m x.code x.k d).1) = (bif x.code == 6 then (x.k, true)
    else bif x.code == 22 then (m.a, true)
    else bif x.code == 5 then runI d g (!(x.t == 0)) (to_ x.t r) m
    else bif isJumpF x.code then
      bif jumpsF x.code m.a (withF m x.code x.k) then runI d g (!(x.t == 0)) (to_ x.t r) m else runI d g (!(x.f == 0)) (to_ x.f r) m
    else bif (plainF m x.code x.k d).2.2 then (0, true)
    else bif !(plainF m x.code x.k d).2.1 then (0, false)
    else runI d g false r (plainF m x.code x.k d).1)
    cases h6 : x.code == 6 with
    | true => rfl
    | false =>
    cases h22 : x.code == 22 with
    | true => rfl
    | false =>
    have hne : r ≠ [] := by
      intro e
      have := hok.2.2.1 e
      unfold endsF at this
      rw [h6, h22] at this; cases this
    simp only [cond_false]
    cases h5 : x.code == 5 with
    | true =>
      simp only [cond_true]
      exact jump x.t (.inr (hok.2.1.1 (by simpa using h5)))
    | false =>
    simp only [cond_false]
    cases hj : isJumpF x.code with
    | true =>
      simp only [cond_true]
      obtain ⟨k1, k2⟩ := hok.2.1.2 hj
      cases jumpsF x.code m.a (withF m x.code x.k) with
      | true =>
        simp only [cond_true]
        exact jump x.t (k1.imp (fun h => ⟨h, hne⟩) id)
      | false =>
        simp only [cond_false]
        exact jump x.f (k2.imp (fun h => ⟨h, hne⟩) id)
    | false =>
    simp only [cond_false]
    cases (plainF m x.code x.k d).2.2 with
    | true => rfl
    | false =>
    simp only [cond_false]
    cases (plainF m x.code x.k d).2.1 with
    | false => rfl
    | true =>
      simp only [Bool.not_true, cond_false]
      exact asm_run L d g r 0 (i + 1) G _ (by omega) hok.2.2.2 hne (Int.le_refl 0) hL2 (by omega) (fun q hq e => by have := hpos q hq; omega)
end Go.Proofs.Ytcplpllbinilmaa
/- What code of spans is, as items, and what it means. -/
namespace Go.Proofs.Ytcplpllbinilmaa
open Go Go.Am Go.Proofs
set_option maxRecDepth 10000
set_option maxHeartbeats 4000000
set_option linter.unusedVariables false
set_option linter.unusedSimpArgs false
/-! the items -/
def offF (h : Half) : Int := bif h.high then 20 + 8 * h.arg else 16 + 8 * h.arg
def codeF (op : Int) : Int := bif op == 1 || op == 2 then 21 else bif op == 5 || op == 4 then 37 else 53
def swapF (op : Int) : Bool := op == 2 || (op == 4 || op == 3)
def jmpS (h : Half) (yes no : Int) : Sym := ⟨0, bif swapF h.op then no else yes, bif swapF h.op then yes else no, codeF h.op, h.value⟩
def ldS (k : Int) : Sym := ⟨0, 0, 0, 32, k⟩
def retS (k : Int) : Sym := ⟨0, 0, 0, 6, k⟩
def andS (k : Int) : Sym := ⟨0, 0, 0, 84, k⟩
def maskI (h : Half) : List Item := bif h.mask == 4294967295 then [] else [.sym (andS h.mask)]
def testI (h : Half) (yes no : Int) : List Item := .sym (ldS (offF h)) :: (maskI h ++ [.sym (jmpS h yes no)])
def halvesI (yes no next : Int) : List Half → List Item
  | [] => []
  | [h] => testI h yes (bif no == next then 0 else no)
  | h :: r => testI h 0 no ++ halvesI yes no next r
def clauseI (l : List Half) (yes no next : Int) : List Item :=
  (bif l.isEmpty && !(yes == 0) then [.sym ⟨0, yes, 0, 5, 0⟩] else []) ++ halvesI yes no next l
def clausesI (act en : Int) : Int → List (List Half) → List Item
  | _, [] => []
  | _, [l] => clauseI l 0 en 0
  | c, l :: r => clauseI l act (c + 1) (c + 1) ++ .lab (c + 1) :: clausesI act en (c + 1) r
def stepI (v : Act → Int) (s : Stp) (n : Int) : List Item :=
  clausesI (n + 1) (n + 2) (n + 2) s.clauses ++ ((bif s.clauses.isEmpty then [] else [.lab (n + 1), .sym (retS (v s.act))]) ++ [.lab (n + 2)])
def stepN (s : Stp) : Int := 2 + s.clauses.length
def stepsI (v : Act → Int) : List Stp → Int → List Item
  | [], _ => []
  | s :: r, n => stepI v s n ++ stepsI v r (n + stepN s)
def stepsN : List Stp → Int
  | [] => 0
  | s :: r => stepN s + stepsN r
def leafI (v : Act → Int) (x : Span) (n : Int) : List Item := stepsI v x.steps n ++ [.sym (retS (v x.act))]
/-! what the data's words are -/
structure Args where
  a : Int → Int
/-- the word of a half -/
def halfW (d : Dat) (h : Half) : Int := (wordF d (offF h)).1
def cmpF (op a b : Int) : Bool :=
  bif op == 1 then a == b else bif op == 2 then !(a == b) else bif op == 3 then decide (a < b) else bif op == 4 then decide (a ≤ b) else bif op == 5 then decide (a > b) else decide (a ≥ b)
def holdsW (d : Dat) (h : Half) : Bool := cmpF h.op (andF (halfW d h) h.mask) h.value
def Half.fit (h : Half) : Prop := (0 ≤ h.arg ∧ h.arg ≤ 5) ∧ (1 ≤ h.op ∧ h.op ≤ 6) ∧ (0 ≤ h.mask ∧ h.mask < 2 ^ 32) ∧ (0 ≤ h.value ∧ h.value < 2 ^ 32)
theorem off_word (d : Dat) (h : Half) (hf : h.fit) : (wordF d (offF h)).2 = true := by
  obtain ⟨⟨a1, a2⟩, _⟩ := hf
  unfold wordF offF
  cases h.high with
  | true =>
    simp only [cond_true]
    have e1 : ((20 + 8 * h.arg).tmod 4 == 0) = true := by rw [Int.tmod_eq_emod_of_nonneg (by omega), beq_iff_eq]; omega
    have e2 : decide (20 + 8 * h.arg > 60) = false := by rw [decide_eq_false_iff_not]; omega
    rw [e1, e2]; rfl
  | false =>
    simp only [cond_false]
    have e1 : ((16 + 8 * h.arg).tmod 4 == 0) = true := by rw [Int.tmod_eq_emod_of_nonneg (by omega), beq_iff_eq]; omega
    have e2 : decide (16 + 8 * h.arg > 60) = false := by rw [decide_eq_false_iff_not]; omega
    rw [e1, e2]; rfl
theorem and_whole {a : Int} (h : 0 ≤ a ∧ a < 2 ^ 32) : andF a 4294967295 = a := by
  obtain ⟨n, rfl⟩ := Int.eq_ofNat_of_zero_le h.1
  unfold andF
  show IntKind.wrap .u32 ↑(BitVec.ofInt 32 (n : Int) &&& BitVec.ofInt 32 4294967295).toNat = _
  have h1 : (BitVec.ofInt 32 (n : Int) &&& BitVec.ofInt 32 4294967295).toNat = n := by
    rw [BitVec.toNat_and, BitVec.toNat_ofInt, BitVec.toNat_ofInt]
    have e1 : ((n : Int) % ((2 ^ 32 : Nat) : Int)).toNat = n := by
      rw [Int.emod_eq_of_lt (by omega) (by omega)]; rfl
    have e2 : ((4294967295 : Int) % ((2 ^ 32 : Nat) : Int)).toNat = 2 ^ 32 - 1 := rfl
    rw [e1, e2, Nat.and_two_pow_sub_one_eq_mod, Nat.mod_eq_of_lt (by omega)]
  rw [h1, wrap_u32 (by omega) (by omega)]
/-! running, whatever the fuel -/
theorem to_len (n : Int) (r : List Item) : (to_ n r).length ≤ r.length := by
  unfold to_
  cases n == 0 with
  | true => exact Nat.le_refl _
  | false => exact goto_len n r
theorem run_fuel (d : Dat) : ∀ (g g' : Nat) (tx : Bool) (I : List Item) (m : Mach), I.length < g → I.length < g' → runI d g tx I m = runI d g' tx I m
  | 0, _, _, I, _, h, _ => by omega
  | _, 0, _, I, _, _, h => by omega
  | g + 1, g' + 1, _, [], m, _, _ => rfl
  | g + 1, g' + 1, tx, .lab n :: r, m, h, h' => run_fuel d g g' true r _ (by simp only [List.length_cons] at h; omega) (by simp only [List.length_cons] at h'; omega)
  | g + 1, g' + 1, tx, .sym x :: r, m, h, h' => by
    simp only [List.length_cons] at h h'
    have k1 := to_len x.t r
    have k2 := to_len x.f r
    unfold runI
    rw [run_fuel d g g' (!(x.t == 0)) (to_ x.t r) m (by omega) (by omega), run_fuel d g g' (!(x.f == 0)) (to_ x.f r) m (by omega) (by omega), run_fuel d g g' false r (plainF m x.code x.k d).1 (by omega) (by omega)]
def val (d : Dat) (tx : Bool) (I : List Item) (m : Mach) : Int × Bool := runI d (I.length + 1) tx I m
theorem val_lab (d : Dat) (tx : Bool) (n : Int) (r : List Item) (m : Mach) : val d tx (.lab n :: r) m = val d true r (bif tx then (plainF m 135 0 d).1 else m) := rfl
theorem val_sym (d : Dat) (tx : Bool) (x : Sym) (r : List Item) (m : Mach) : val d tx (.sym x :: r) m =
    bif x.code == 6 then (x.k, true)
    else bif x.code == 22 then (m.a, true)
    else bif x.code == 5 then val d (!(x.t == 0)) (to_ x.t r) m
    else bif isJumpF x.code then
      bif jumpsF x.code m.a (withF m x.code x.k) then val d (!(x.t == 0)) (to_ x.t r) m else val d (!(x.f == 0)) (to_ x.f r) m
    else bif (plainF m x.code x.k d).2.2 then (0, true)
    else bif !(plainF m x.code x.k d).2.1 then (0, false)
    else val d false r (plainF m x.code x.k d).1 := by
  have k1 := to_len x.t r
  have k2 := to_len x.f r
  unfold val
  rw [List.length_cons, runI]
  rw [run_fuel d (r.length + 1) ((to_ x.t r).length + 1) (!(x.t == 0)) (to_ x.t r) m (by omega) (by omega), run_fuel d (r.length + 1) ((to_ x.f r).length + 1) (!(x.f == 0)) (to_ x.f r) m (by omega) (by omega)]
theorem val_jmp (d : Dat) (tx : Bool) (x : Sym) (r : List Item) (m : Mach) (h : isJumpF x.code = true) : val d tx (.sym x :: r) m = bif jumpsF x.code m.a (withF m x.code x.k) then val d (!(x.t == 0)) (to_ x.t r) m else val d (!(x.f == 0)) (to_ x.f r) m := by
  obtain ⟨h1, h2, h3⟩ := jump5 h
  rw [val_sym, h1, h2, h3, h]; rfl
/-- what runs alike, whatever the machine -/
def Same (d : Dat) (I : List Item) : Prop := ∀ tx m, val d tx I m = val d false I Mach.zero
theorem same_ret (d : Dat) (k : Int) (r : List Item) : Same d (.sym (retS k) :: r) := fun _ _ => rfl
theorem val_ret (d : Dat) (tx : Bool) (k : Int) (r : List Item) (m : Mach) : val d tx (.sym (retS k) :: r) m = (k, true) := rfl
theorem same_lab {d : Dat} {n : Int} {r : List Item} (h : Same d r) : Same d (.lab n :: r) := fun tx m => by
  rw [val_lab, val_lab, h, h true _]
theorem val_lab' {d : Dat} {n : Int} {r : List Item} (h : Same d r) (tx : Bool) (m : Mach) : val d tx (.lab n :: r) m = val d false r Mach.zero := by
  rw [val_lab, h]
theorem test_val (d : Dat) (h : Half) (hf : h.fit) (yes no : Int) (R : List Item) (tx : Bool) (m : Mach) : ∃ m', val d tx (testI h yes no ++ R) m = bif holdsW d h then val d (!(yes == 0)) (to_ yes R) m' else val d (!(no == 0)) (to_ no R) m' := by
  have hw := off_word d h hf
  have hwb := word_ok d (offF h)
  obtain ⟨_, ho, hmk, hv⟩ := hf
  refine ⟨⟨andF (halfW d h) h.mask, m.x, m.c⟩, ?_⟩
  have h1 : val d tx (testI h yes no ++ R) m = val d false (maskI h ++ (.sym (jmpS h yes no) :: R)) ⟨halfW d h, m.x, m.c⟩ := by
    show val d tx (.sym (ldS (offF h)) :: (maskI h ++ [.sym (jmpS h yes no)] ++ R)) m = _
    rw [val_sym]
    have hp : plainF m 32 (offF h) d = (⟨(wordF d (offF h)).1, m.x, m.c⟩, (wordF d (offF h)).2, false) := rfl
    show (bif (plainF m 32 (offF h) d).2.2 then ((0 : Int), true) else bif !(plainF m 32 (offF h) d).2.1 then (0, false) else val d false _ (plainF m 32 (offF h) d).1) = _
    rw [hp, hw, List.append_assoc]; rfl
  have h2 : val d false (maskI h ++ (.sym (jmpS h yes no) :: R)) ⟨halfW d h, m.x, m.c⟩ = val d false (.sym (jmpS h yes no) :: R) ⟨andF (halfW d h) h.mask, m.x, m.c⟩ := by
    unfold maskI
    cases hm : h.mask == 4294967295 with
    | true =>
      rw [beq_iff_eq] at hm
      rw [hm, show andF (halfW d h) 4294967295 = halfW d h from and_whole hwb]; rfl
    | false =>
      show val d false (.sym (andS h.mask) :: (.sym (jmpS h yes no) :: R)) _ = _
      rw [val_sym]
      have hp : plainF ⟨halfW d h, m.x, m.c⟩ 84 h.mask d = (⟨andF (halfW d h) h.mask, m.x, m.c⟩, true, false) := rfl
      show (bif (plainF ⟨halfW d h, m.x, m.c⟩ 84 h.mask d).2.2 then ((0 : Int), true) else bif !(plainF ⟨halfW d h, m.x, m.c⟩ 84 h.mask d).2.1 then (0, false) else val d false _ (plainF ⟨halfW d h, m.x, m.c⟩ 84 h.mask d).1) = _
      rw [hp]; rfl
  rw [h1, h2]
  unfold holdsW
  generalize andF (halfW d h) h.mask = A at *
  have hop : h.op = 1 ∨ h.op = 2 ∨ h.op = 3 ∨ h.op = 4 ∨ h.op = 5 ∨ h.op = 6 := by omega
  unfold jmpS
  have e1 : decide (A ≤ h.value) = !decide (A > h.value) := by
    rw [Bool.eq_iff_iff, decide_eq_true_eq, Bool.not_eq_true', decide_eq_false_iff_not]; omega
  have e2 : decide (A < h.value) = !decide (A ≥ h.value) := by
    rw [Bool.eq_iff_iff, decide_eq_true_eq, Bool.not_eq_true', decide_eq_false_iff_not]; omega
  have jm : ∀ (c t f : Int) (b : Bool), isJumpF c = true → jumpsF c A (withF ⟨A, m.x, m.c⟩ c h.value) = b → val d false (.sym ⟨0, t, f, c, h.value⟩ :: R) ⟨A, m.x, m.c⟩ = bif b then val d (!(t == 0)) (to_ t R) ⟨A, m.x, m.c⟩ else val d (!(f == 0)) (to_ f R) ⟨A, m.x, m.c⟩ := by
    intro c t f b h1 h2
    rw [val_jmp d false ⟨0, t, f, c, h.value⟩ R _ h1]
    simp only
    rw [h2]
  rcases hop with hop | hop | hop | hop | hop | hop <;> rw [hop]
  · exact jm 21 yes no (A == h.value) rfl rfl
  · refine (jm 21 no yes (A == h.value) rfl rfl).trans ?_
    show _ = bif !(A == h.value) then _ else _
    cases A == h.value <;> rfl
  · refine (jm 53 no yes (decide (A ≥ h.value)) rfl rfl).trans ?_
    show _ = bif decide (A < h.value) then _ else _
    rw [e2]
    cases decide (A ≥ h.value) <;> rfl
  · refine (jm 37 no yes (decide (A > h.value)) rfl rfl).trans ?_
    show _ = bif decide (A ≤ h.value) then _ else _
    rw [e1]
    cases decide (A > h.value) <;> rfl
  · exact jm 37 yes no (decide (A > h.value)) rfl rfl
  · exact jm 53 yes no (decide (A ≥ h.value)) rfl rfl
/-- where a jump leads, whatever the machine -/
def SameTo (d : Dat) (n : Int) (R : List Item) : Prop := Same d (to_ n R)
def valTo (d : Dat) (n : Int) (R : List Item) : Int × Bool := val d false (to_ n R) Mach.zero
theorem test_same (d : Dat) (h : Half) (hf : h.fit) (yes no : Int) (R : List Item) (hy : SameTo d yes R) (hn : SameTo d no R) (tx : Bool) (m : Mach) : val d tx (testI h yes no ++ R) m = bif holdsW d h then valTo d yes R else valTo d no R := by
  obtain ⟨m', h1⟩ := test_val d h hf yes no R tx m
  rw [h1, hy, hn]; rfl
theorem mask_labs (h : Half) : labsI (maskI h) = [] := by
  unfold maskI
  cases h.mask == 4294967295 <;> rfl
theorem test_labs (h : Half) (yes no : Int) : labsI (testI h yes no) = [] := by
  show labsI (maskI h ++ [.sym (jmpS h yes no)]) = []
  rw [labs_app, mask_labs]; rfl
theorem halves_labs (yes no next : Int) : ∀ l : List Half, labsI (halvesI yes no next l) = []
  | [] => rfl
  | [h] => test_labs h _ _
  | h :: g :: r => by
    show labsI (testI h 0 no ++ halvesI yes no next (g :: r)) = []
    rw [labs_app, test_labs, halves_labs yes no next (g :: r)]; rfl
theorem clause_labs (l : List Half) (yes no next : Int) : labsI (clauseI l yes no next) = [] := by
  unfold clauseI
  rw [labs_app, halves_labs]
  cases (l.isEmpty && !(yes == 0)) <;> rfl
theorem to_app (n : Int) (A R : List Item) (hA : labsI A = []) (hn : n ≠ 0) : to_ n (A ++ R) = to_ n R := by
  unfold to_
  rw [show (n == 0) = false from by rw [beq_eq_false_iff_ne]; exact hn]
  exact goto_app n A R (by rw [hA]; simp)
theorem halves_val (d : Dat) (yes no next : Int) (R : List Item) (hno : no ≠ 0) (hR : Same d R) (hy : SameTo d yes R) (hn : SameTo d no R) (hnx : no = next → valTo d no R = val d false R Mach.zero) :
    ∀ (l : List Half), l ≠ [] → (∀ h ∈ l, h.fit) → ∀ tx m, val d tx (halvesI yes no next l ++ R) m = bif l.all (holdsW d) then valTo d yes R else valTo d no R
  | [], h, _, _, _ => absurd rfl h
  | [h], _, hf, tx, m => by
    show val d tx (testI h yes (bif no == next then 0 else no) ++ R) m = _
    have e : [h].all (holdsW d) = holdsW d h := by simp
    rw [e]
    cases hc : no == next with
    | true =>
      rw [cond_true, test_same d h (hf h (by simp)) yes 0 R hy hR]
      rw [beq_iff_eq] at hc
      rw [hnx hc]; rfl
    | false => rw [cond_false, test_same d h (hf h (by simp)) yes no R hy hn]
  | h :: g :: r, _, hf, tx, m => by
    have ih := halves_val d yes no next R hno hR hy hn hnx (g :: r) (by simp) fun x hx => hf x (by simp [hx])
    show val d tx (testI h 0 no ++ halvesI yes no next (g :: r) ++ R) m = _
    rw [List.append_assoc]
    have hto : to_ no (halvesI yes no next (g :: r) ++ R) = to_ no R := to_app no _ R (halves_labs yes no next (g :: r)) hno
    have hs : Same d (halvesI yes no next (g :: r) ++ R) := fun tx m => by rw [ih tx m, ih false Mach.zero]
    rw [test_same d h (hf h (by simp)) 0 no _ hs (by unfold SameTo; rw [hto]; exact hn)]
    have e1 : valTo d no (halvesI yes no next (g :: r) ++ R) = valTo d no R := by unfold valTo; rw [hto]
    have e2 : valTo d 0 (halvesI yes no next (g :: r) ++ R) = val d false (halvesI yes no next (g :: r) ++ R) Mach.zero := rfl
    rw [e1, e2, ih]
    show _ = bif (holdsW d h && (g :: r).all (holdsW d)) then _ else _
    cases holdsW d h <;> rfl
theorem clause_val (d : Dat) (yes no next : Int) (R : List Item) (hno : no ≠ 0) (hR : Same d R) (hy : SameTo d yes R) (hn : SameTo d no R) (hnx : no = next → valTo d no R = val d false R Mach.zero) (l : List Half) (hf : ∀ h ∈ l, h.fit) (tx : Bool) (m : Mach) :
    val d tx (clauseI l yes no next ++ R) m = bif l.all (holdsW d) then valTo d yes R else valTo d no R := by
  unfold clauseI
  cases l with
  | nil =>
    show val d tx ((bif !(yes == 0) then [.sym ⟨0, yes, 0, 5, 0⟩] else []) ++ [] ++ R) m = valTo d yes R
    rw [List.append_nil]
    cases h0 : yes == 0 with
    | true =>
      rw [beq_iff_eq] at h0
      subst h0
      exact hR tx m
    | false =>
      show val d tx (.sym ⟨0, yes, 0, 5, 0⟩ :: R) m = _
      rw [val_sym]
      show val d (!(yes == 0)) (to_ yes R) m = _
      rw [hy]; rfl
  | cons h r =>
    show val d tx (halvesI yes no next (h :: r) ++ R) m = _
    exact halves_val d yes no next R hno hR hy hn hnx (h :: r) (by simp) hf tx m
end Go.Proofs.Ytcplpllbinilmaa
/- What code of steps, spans, and of all of them, means. -/
namespace Go.Proofs.Ytcplpllbinilmaa
open Go Go.Am Go.Proofs
set_option maxRecDepth 10000
set_option maxHeartbeats 4000000
set_option linter.unusedVariables false
set_option linter.unusedSimpArgs false
def someW (d : Dat) (l : List (List Half)) : Bool := l.any fun c => c.all (holdsW d)
def Stp.fit (s : Stp) : Prop := ∀ c ∈ s.clauses, ∀ h ∈ c, h.fit
theorem clauses_gt (act en : Int) : ∀ (l : List (List Half)) (c : Int), ∀ q ∈ labsI (clausesI act en c l), c < q ∧ q < c + l.length
  | [], c, q, h => by cases h
  | [l], c, q, h => by
    have : labsI (clausesI act en c [l]) = [] := clause_labs l 0 en 0
    rw [this] at h; cases h
  | l :: g :: r, c, q, h => by
    have h : q ∈ labsI (clauseI l act (c + 1) (c + 1) ++ .lab (c + 1) :: clausesI act en (c + 1) (g :: r)) := h
    rw [labs_app, clause_labs, List.nil_append] at h
    rcases List.mem_cons.1 (show q ∈ (c + 1) :: labsI (clausesI act en (c + 1) (g :: r)) from h) with rfl | h
    · simp only [List.length_cons]; omega
    · have := clauses_gt act en (g :: r) (c + 1) q h
      simp only [List.length_cons] at this ⊢
      omega
def tailI (act en k : Int) (R : List Item) : List Item := .lab act :: .sym (retS k) :: .lab en :: R
theorem tail_act (act en k : Int) (R : List Item) (h : 0 < act) : to_ act (tailI act en k R) = .sym (retS k) :: .lab en :: R := by
  unfold to_
  rw [show (act == 0) = false from by rw [beq_eq_false_iff_ne]; omega]
  show (bif act == act then _ else _) = _
  rw [beq_self_eq_true]; rfl
theorem tail_en (act en k : Int) (R : List Item) (h : 0 < act) (h2 : act < en) : to_ en (tailI act en k R) = R := by
  unfold to_
  rw [show (en == 0) = false from by rw [beq_eq_false_iff_ne]; omega]
  show (bif act == en then _ else (bif en == en then R else _)) = R
  rw [show (act == en) = false from by rw [beq_eq_false_iff_ne]; omega, beq_self_eq_true]; rfl
theorem clauses_val (d : Dat) (act en k : Int) (R : List Item) (h0 : 0 < act) (h1 : act < en) (hR : Same d R) :
    ∀ (l : List (List Half)) (c : Int), l ≠ [] → en ≤ c → (∀ x ∈ l, ∀ h ∈ x, h.fit) → ∀ tx m, val d tx (clausesI act en c l ++ tailI act en k R) m = bif someW d l then (k, true) else val d false R Mach.zero
  | [], _, h, _, _, _, _ => absurd rfl h
  | [l], c, _, hc, hf, tx, m => by
    show val d tx (clauseI l 0 en 0 ++ tailI act en k R) m = _
    have hT : Same d (tailI act en k R) := same_lab (same_ret d k _)
    have hen : SameTo d en (tailI act en k R) := by unfold SameTo; rw [tail_en act en k R h0 h1]; exact hR
    rw [clause_val d 0 en 0 (tailI act en k R) (by omega) hT hT hen (fun h => by omega) l (hf l (by simp)) tx m]
    have e1 : valTo d 0 (tailI act en k R) = (k, true) := by
      show val d false (.lab act :: .sym (retS k) :: .lab en :: R) Mach.zero = _
      rw [val_lab' (same_ret d k _)]; rfl
    have e2 : valTo d en (tailI act en k R) = val d false R Mach.zero := by unfold valTo; rw [tail_en act en k R h0 h1]
    rw [e1, e2]
    unfold someW
    simp only [List.any_cons, List.any_nil, Bool.or_false]
  | l :: g :: r, c, _, hc, hf, tx, m => by
    have ih := clauses_val d act en k R h0 h1 hR (g :: r) (c + 1) (by simp) (by omega) fun x hx => hf x (by simp [hx])
    show val d tx (clauseI l act (c + 1) (c + 1) ++ .lab (c + 1) :: clausesI act en (c + 1) (g :: r) ++ tailI act en k R) m = _
    rw [List.append_assoc, List.cons_append]
    generalize hJ : clausesI act en (c + 1) (g :: r) ++ tailI act en k R = J at *
    have hsJ : Same d J := fun tx m => by rw [ih tx m, ih false Mach.zero]
    have hto1 : to_ (c + 1) (.lab (c + 1) :: J) = J := by
      unfold to_
      rw [show (c + 1 == 0) = false from by rw [beq_eq_false_iff_ne]; omega]
      show (bif c + 1 == c + 1 then J else _) = J
      rw [beq_self_eq_true]; rfl
    have hto2 : to_ act (.lab (c + 1) :: J) = .sym (retS k) :: .lab en :: R := by
      rw [← tail_act act en k R h0]
      unfold to_
      rw [show (act == 0) = false from by rw [beq_eq_false_iff_ne]; omega]
      show (bif c + 1 == act then J else goto_ act J) = goto_ act (tailI act en k R)
      rw [show (c + 1 == act) = false from by rw [beq_eq_false_iff_ne]; omega, ← hJ]
      exact goto_app act _ _ fun hm => by
        have := clauses_gt act en (g :: r) (c + 1) act hm
        omega
    rw [clause_val d act (c + 1) (c + 1) (.lab (c + 1) :: J) (by omega) (same_lab hsJ) (by unfold SameTo; rw [hto2]; exact same_ret d k _) (by unfold SameTo; rw [hto1]; exact hsJ) (fun _ => by unfold valTo; rw [hto1, val_lab' hsJ]) l (hf l (by simp)) tx m]
    have e1 : valTo d act (.lab (c + 1) :: J) = (k, true) := by unfold valTo; rw [hto2]; rfl
    have e2 : valTo d (c + 1) (.lab (c + 1) :: J) = val d false J Mach.zero := by unfold valTo; rw [hto1]
    rw [e1, e2, ih]
    show _ = bif (l.all (holdsW d) || someW d (g :: r)) then _ else _
    cases l.all (holdsW d) <;> rfl
theorem step_val (d : Dat) (v : Act → Int) (s : Stp) (n : Int) (hn : 0 ≤ n) (hs : s.fit) (R : List Item) (hR : Same d R) (tx : Bool) (m : Mach) : val d tx (stepI v s n ++ R) m = bif someW d s.clauses then (v s.act, true) else val d false R Mach.zero := by
  unfold stepI
  obtain ⟨cl, a⟩ := s
  simp only
  cases cl with
  | nil =>
    show val d tx (.lab (n + 2) :: R) m = val d false R Mach.zero
    exact val_lab' hR tx m
  | cons c r =>
    have e : clausesI (n + 1) (n + 2) (n + 2) (c :: r) ++ ((bif (c :: r).isEmpty then [] else [.lab (n + 1), .sym (retS (v a))]) ++ [.lab (n + 2)]) ++ R = clausesI (n + 1) (n + 2) (n + 2) (c :: r) ++ tailI (n + 1) (n + 2) (v a) R := by
      rw [List.append_assoc]; rfl
    rw [e]
    exact clauses_val d (n + 1) (n + 2) (v a) R (by omega) (by omega) hR (c :: r) (n + 2) (by simp) (by omega) hs tx m
def ledW (d : Dat) : List Stp → Act → Act
  | [], a => a
  | s :: r, a => bif someW d s.clauses then s.act else ledW d r a
theorem steps_val (d : Dat) (v : Act → Int) (a : Act) (R : List Item) : ∀ (l : List Stp) (n : Int), 0 ≤ n → (∀ s ∈ l, s.fit) → ∀ tx m, val d tx (stepsI v l n ++ .sym (retS (v a)) :: R) m = (v (ledW d l a), true)
  | [], n, _, _, tx, m => val_ret d tx _ R m
  | s :: r, n, hn, hf, tx, m => by
    have hpos : 0 ≤ stepN s := by unfold stepN; omega
    have ih := steps_val d v a R r (n + stepN s) (by omega) fun x hx => hf x (by simp [hx])
    show val d tx (stepI v s n ++ stepsI v r (n + stepN s) ++ .sym (retS (v a)) :: R) m = _
    rw [List.append_assoc]
    have hs : Same d (stepsI v r (n + stepN s) ++ .sym (retS (v a)) :: R) := fun tx m => by rw [ih tx m, ih false Mach.zero]
    rw [step_val d v s n hn (hf s (by simp)) _ hs tx m, ih]
    show _ = (v (bif someW d s.clauses then s.act else ledW d r a), true)
    cases someW d s.clauses <;> rfl
def Span.fit (x : Span) : Prop := ∀ s ∈ x.steps, s.fit
theorem leaf_val (d : Dat) (v : Act → Int) (x : Span) (hx : x.fit) (n : Int) (hn : 0 ≤ n) (R : List Item) (tx : Bool) (m : Mach) : val d tx (leafI v x n ++ R) m = (v (ledW d x.steps x.act), true) := by
  unfold leafI
  rw [List.append_assoc]
  exact steps_val d v x.act R x.steps n hn hx tx m
/-! labels, and how many -/
theorem step_gt (v : Act → Int) (s : Stp) (n : Int) : ∀ q ∈ labsI (stepI v s n), n < q ∧ q ≤ n + stepN s := by
  intro q hq
  unfold stepI at hq
  rw [labs_app, labs_app] at hq
  unfold stepN
  rcases List.mem_append.1 hq with hq | hq
  · have := clauses_gt (n + 1) (n + 2) s.clauses (n + 2) q hq
    omega
  · rcases List.mem_append.1 hq with hq | hq
    · cases h : s.clauses.isEmpty with
      | true => rw [h] at hq; cases hq
      | false =>
        rw [h] at hq
        rcases List.mem_cons.1 (show q ∈ [n + 1] from hq) with rfl | hq
        · omega
        · cases hq
    · rcases List.mem_cons.1 (show q ∈ [n + 2] from hq) with rfl | hq
      · omega
      · cases hq
theorem stepN_pos (s : Stp) : 0 < stepN s := by unfold stepN; omega
theorem stepsN_pos : ∀ l : List Stp, 0 ≤ stepsN l
  | [] => Int.le_refl 0
  | s :: r => by
    have := stepN_pos s
    have := stepsN_pos r
    rw [stepsN]; omega
theorem steps_gt (v : Act → Int) : ∀ (l : List Stp) (n : Int), ∀ q ∈ labsI (stepsI v l n), n < q ∧ q ≤ n + stepsN l
  | [], n, q, h => by cases h
  | s :: r, n, q, h => by
    have h : q ∈ labsI (stepI v s n ++ stepsI v r (n + stepN s)) := h
    rw [labs_app] at h
    have p1 := stepN_pos s
    have p2 := stepsN_pos r
    rw [stepsN]
    rcases List.mem_append.1 h with h | h
    · have := step_gt v s n q h; omega
    · have := steps_gt v r (n + stepN s) q h; omega
theorem leaf_gt (v : Act → Int) (x : Span) (n : Int) : ∀ q ∈ labsI (leafI v x n), n < q ∧ q ≤ n + stepsN x.steps := by
  intro q hq
  unfold leafI at hq
  rw [labs_app] at hq
  rcases List.mem_append.1 hq with h | h
  · exact steps_gt v x.steps n q h
  · cases h
/-! the search -/
def loAt (l : List Span) (i : Nat) : Int := ((l[i]?).map (·.lo)).getD 0
def spansN : List Span → Int
  | [] => 0
  | x :: r => stepsN x.steps + 1 + spansN r
def searchI (v : Act → Int) : Nat → List Span → Int → List Item
  | 0, _, _ => []
  | k + 1, l, n => match l with
    | [] => []
    | [x] => leafI v x n
    | x :: y :: r => .sym ⟨0, n + 1, 0, 53, loAt (x :: y :: r) ((x :: y :: r).length / 2)⟩ ::
        (searchI v k ((x :: y :: r).take ((x :: y :: r).length / 2)) (n + 1) ++
          .lab (n + 1) :: searchI v k ((x :: y :: r).drop ((x :: y :: r).length / 2)) (n + spansN ((x :: y :: r).take ((x :: y :: r).length / 2))))
theorem spansN_pos : ∀ l : List Span, (l.length : Int) ≤ spansN l
  | [] => by simp [spansN]
  | x :: r => by
    have := spansN_pos r
    have := stepsN_pos x.steps
    rw [spansN, List.length_cons]; omega
theorem spansN_app : ∀ a b : List Span, spansN (a ++ b) = spansN a + spansN b
  | [], b => by simp [spansN]
  | x :: a, b => by rw [List.cons_append, spansN, spansN, spansN_app a b]; omega
theorem search_gt (v : Act → Int) : ∀ (k : Nat) (l : List Span) (n : Int), ∀ q ∈ labsI (searchI v k l n), n < q ∧ q < n + spansN l
  | 0, _, _, q, h => by cases h
  | k + 1, [], n, q, h => by cases h
  | k + 1, [x], n, q, h => by
    have := leaf_gt v x n q h
    rw [spansN, spansN]; omega
  | k + 1, x :: y :: r, n, q, h => by
    generalize hl : x :: y :: r = l at *
    have hlen : 2 ≤ l.length := by rw [← hl]; simp
    have hs : labsI (searchI v (k + 1) l n) = labsI (searchI v k (l.take (l.length / 2)) (n + 1)) ++ (n + 1) :: labsI (searchI v k (l.drop (l.length / 2)) (n + spansN (l.take (l.length / 2)))) := by
      rw [← hl]
      show labsI (searchI v k _ _ ++ .lab (n + 1) :: _) = _
      rw [labs_app]; rfl
    rw [hs] at h
    have hsp : spansN l = spansN (l.take (l.length / 2)) + spansN (l.drop (l.length / 2)) := by rw [← spansN_app, List.take_append_drop]
    have p1 := spansN_pos (l.take (l.length / 2))
    have p2 := spansN_pos (l.drop (l.length / 2))
    rw [List.length_take] at p1
    rw [List.length_drop] at p2
    rcases List.mem_append.1 h with h | h
    · have := search_gt v k _ _ q h; omega
    · rcases List.mem_cons.1 h with rfl | h
      · omega
      · have := search_gt v k _ _ q h; omega
def sortP (l : List Span) : Prop := (∀ x ∈ l, x.lo ≤ x.hi) ∧ l.Pairwise fun a b => a.hi < b.lo
theorem search_val (d : Dat) (v : Act → Int) (R : List Item) : ∀ (k : Nat) (l : List Span) (n : Int) (m : Mach) (tx : Bool), l.length ≤ k → 0 ≤ n → (∀ x ∈ l, x.fit) → sortP l → ∀ x ∈ l, x.lo ≤ m.a → m.a ≤ x.hi → val d tx (searchI v k l n ++ R) m = (v (ledW d x.steps x.act), true)
  | 0, l, n, m, tx, hk, _, _, _, x, hx, _, _ => by
    cases l with
    | nil => cases hx
    | cons => simp at hk
  | k + 1, [], n, m, tx, _, _, _, _, x, hx, _, _ => by cases hx
  | k + 1, [y], n, m, tx, _, hn, hf, _, x, hx, _, _ => by
    simp only [List.mem_singleton] at hx
    subst hx
    exact leaf_val d v x (hf x (by simp)) n hn R tx m
  | k + 1, y :: z :: r, n, m, tx, hk, hn, hf, hs, x, hx, h1, h2 => by
    generalize hl : y :: z :: r = l at *
    have hlen : 2 ≤ l.length := by rw [← hl]; simp
    have e : searchI v (k + 1) l n = .sym ⟨0, n + 1, 0, 53, loAt l (l.length / 2)⟩ :: (searchI v k (l.take (l.length / 2)) (n + 1) ++ .lab (n + 1) :: searchI v k (l.drop (l.length / 2)) (n + spansN (l.take (l.length / 2)))) := by rw [← hl]; rfl
    rw [e]
    obtain ⟨w, hw⟩ : ∃ w, l[l.length / 2]? = some w := ⟨_, List.getElem?_eq_getElem (by omega)⟩
    have hlo : loAt l (l.length / 2) = w.lo := by unfold loAt; rw [hw]; rfl
    rw [hlo, List.cons_append, val_jmp d tx ⟨0, n + 1, 0, 53, w.lo⟩ _ m rfl]
    have hj : jumpsF 53 m.a (withF m 53 w.lo) = decide (m.a ≥ w.lo) := rfl
    show (bif jumpsF 53 m.a (withF m 53 w.lo) then val d (!(n + 1 == 0)) (to_ (n + 1) _) m else val d false _ m) = _
    rw [hj]
    have hdrop : l.drop (l.length / 2) = w :: l.drop (l.length / 2 + 1) := by
      obtain ⟨g1, g2⟩ := List.getElem?_eq_some_iff.1 hw
      rw [List.drop_eq_getElem_cons g1, g2]
    have hst : ∀ (a b : List Span), l = a ++ b → sortP a ∧ sortP b ∧ ∀ p ∈ a, ∀ q ∈ b, p.hi < q.lo := by
      intro a b hab
      obtain ⟨s1, s2⟩ := hs
      rw [hab, List.pairwise_append] at s2
      exact ⟨⟨fun x hx => s1 x (by rw [hab]; simp [hx]), s2.1⟩, ⟨fun x hx => s1 x (by rw [hab]; simp [hx]), s2.2.1⟩, s2.2.2⟩
    obtain ⟨sa, sb, sab⟩ := hst _ _ (List.take_append_drop (l.length / 2) l).symm
    have hpa := spansN_pos (l.take (l.length / 2))
    have hx2 : x ∈ l.take (l.length / 2) ++ l.drop (l.length / 2) := by rw [List.take_append_drop]; exact hx
    rcases List.mem_append.1 hx2 with hx3 | hx3
    · have := sab x hx3 w (by rw [hdrop]; simp)
      have hc : decide (m.a ≥ w.lo) = false := by rw [decide_eq_false_iff_not]; omega
      rw [hc, cond_false, List.append_assoc]
      exact search_val d v _ k _ (n + 1) m false (by rw [List.length_take]; omega) (by omega) (fun z hz => hf z (List.mem_of_mem_take hz)) sa x hx3 h1 h2
    · have hwx : w.lo ≤ x.lo := by
        rw [hdrop] at hx3 sb
        rcases List.mem_cons.1 hx3 with rfl | hx3
        · exact Int.le_refl _
        · have h3 := (List.pairwise_cons.1 sb.2).1 x hx3
          have h4 := sb.1 w (by simp)
          omega
      have hc : decide (m.a ≥ w.lo) = true := by rw [decide_eq_true_eq]; omega
      rw [hc, cond_true]
      have hto : to_ (n + 1) (searchI v k (l.take (l.length / 2)) (n + 1) ++ .lab (n + 1) :: searchI v k (l.drop (l.length / 2)) (n + spansN (l.take (l.length / 2))) ++ R) = searchI v k (l.drop (l.length / 2)) (n + spansN (l.take (l.length / 2))) ++ R := by
        unfold to_
        rw [show (n + 1 == 0) = false from by rw [beq_eq_false_iff_ne]; omega, cond_false, List.append_assoc, goto_app (n + 1) _ _ (fun hm => by
          have := search_gt v k _ _ _ hm; omega)]
        show (bif n + 1 == n + 1 then _ else _) = _
        rw [beq_self_eq_true]; rfl
      rw [hto]
      exact search_val d v R k _ _ m _ (by rw [List.length_drop]; omega) (by omega) (fun z hz => hf z (List.mem_of_mem_drop hz)) sb x hx3 h1 h2
/-! all of it -/
def codeI (v : Act → Int) (arch kill : Int) (l : List Span) : List Item :=
  .sym (ldS 4) :: .sym ⟨0, 1, 0, 21, arch⟩ :: .sym (retS kill) :: .lab 1 :: .sym (ldS 0) :: searchI v l.length l 1
theorem code_val (d : Dat) (hw0 : wordF d 0 = (d.nr, true)) (hw4 : wordF d 4 = (d.arch, true)) (v : Act → Int) (arch kill : Int) (l : List Span) (hf : ∀ x ∈ l, x.fit) (hs : sortP l) (x : Span) (hx : x ∈ l) (h1 : x.lo ≤ d.nr) (h2 : d.nr ≤ x.hi) (m : Mach) :
    val d false (codeI v arch kill l) m = bif d.arch == arch then (v (ledW d x.steps x.act), true) else (kill, true) := by
  unfold codeI
  rw [val_sym]
  have hp : plainF m 32 4 d = (⟨d.arch, m.x, m.c⟩, true, false) := by
    have : plainF m 32 4 d = (⟨(wordF d 4).1, m.x, m.c⟩, (wordF d 4).2, false) := rfl
    rw [this, hw4]
  show (bif (plainF m 32 4 d).2.2 then ((0 : Int), true) else bif !(plainF m 32 4 d).2.1 then (0, false) else val d false _ (plainF m 32 4 d).1) = _
  rw [hp]
  show val d false (.sym ⟨0, 1, 0, 21, arch⟩ :: .sym (retS kill) :: .lab 1 :: .sym (ldS 0) :: searchI v l.length l 1) ⟨d.arch, m.x, m.c⟩ = _
  rw [val_jmp d false ⟨0, 1, 0, 21, arch⟩ _ _ rfl]
  have hj : jumpsF 21 d.arch (withF ⟨d.arch, m.x, m.c⟩ 21 arch) = (d.arch == arch) := rfl
  show (bif jumpsF 21 d.arch (withF ⟨d.arch, m.x, m.c⟩ 21 arch) then val d true (.sym (ldS 0) :: searchI v l.length l 1) ⟨d.arch, m.x, m.c⟩ else (kill, true)) = _
  rw [hj]
  cases d.arch == arch with
  | false => rfl
  | true =>
    simp only [cond_true]
    rw [val_sym]
    have hp2 : plainF ⟨d.arch, m.x, m.c⟩ 32 0 d = (⟨d.nr, m.x, m.c⟩, true, false) := by
      have : plainF ⟨d.arch, m.x, m.c⟩ 32 0 d = (⟨(wordF d 0).1, m.x, m.c⟩, (wordF d 0).2, false) := rfl
      rw [this, hw0]
    show (bif (plainF ⟨d.arch, m.x, m.c⟩ 32 0 d).2.2 then ((0 : Int), true) else bif !(plainF ⟨d.arch, m.x, m.c⟩ 32 0 d).2.1 then (0, false) else val d false _ (plainF ⟨d.arch, m.x, m.c⟩ 32 0 d).1) = _
    rw [hp2]
    have := search_val d v [] l.length l 1 ⟨d.nr, m.x, m.c⟩ false (Nat.le_refl _) (by decide) hf hs x hx h1 h2
    rw [List.append_nil] at this
    exact this
end Go.Proofs.Ytcplpllbinilmaa
/- Code of spans may be linked: each label but once, jumps lead on. -/
namespace Go.Proofs.Ytcplpllbinilmaa
open Go Go.Am Go.Proofs
set_option maxRecDepth 10000
set_option maxHeartbeats 4000000
set_option linter.unusedVariables false
set_option linter.unusedSimpArgs false
abbrev goalsTo (n : Int) (R : List Item) : Prop := n = 0 ∨ n ∈ labsI R
theorem goals_app {n : Int} (A : List Item) {R : List Item} (h : goalsTo n R) : goalsTo n (A ++ R) := by
  rcases h with h | h
  · exact .inl h
  · exact .inr (by rw [labs_app]; exact List.mem_append_right _ h)
theorem ok_plain (x : Sym) (hc : codeOk x.code = true) (h5 : (x.code == 5) = false) (hj : isJumpF x.code = false) {R : List Item} (hR : okI R) (hne : R ≠ []) : okI (.sym x :: R) := by
  refine ⟨hc, ⟨fun h => ?_, fun h => ?_⟩, fun h => absurd h hne, hR⟩
  · rw [h] at h5; cases h5
  · rw [hj] at h; cases h
theorem ok_jump (x : Sym) (hc : codeOk x.code = true) (h5 : (x.code == 5) = false) {R : List Item} (hR : okI R) (hne : R ≠ []) (ht : goalsTo x.t R) (hf : goalsTo x.f R) : okI (.sym x :: R) := by
  refine ⟨hc, ⟨fun h => ?_, fun _ => ⟨ht, hf⟩⟩, fun h => absurd h hne, hR⟩
  rw [h] at h5; cases h5
theorem ok_ret (k : Int) {R : List Item} (hR : okI R) : okI (.sym (retS k) :: R) :=
  ⟨by show codeOk 6 = true; decide, ⟨fun h => absurd (show (6 : Int) = 5 from h) (by decide), fun h => absurd (show isJumpF 6 = true from h) (by decide)⟩, fun _ => by show endsF 6 = true; decide, hR⟩
theorem ok_lab {n : Int} (hn : 0 < n) {R : List Item} (hR : okI R) (hne : R ≠ []) (h : n ∉ labsI R) : okI (.lab n :: R) := ⟨hn, h, hne, hR⟩
theorem ok_test (h : Half) (hf : h.fit) (yes no : Int) {R : List Item} (hR : okI R) (hne : R ≠ []) (hy : goalsTo yes R) (hn : goalsTo no R) : okI (testI h yes no ++ R) := by
  have hop : h.op = 1 ∨ h.op = 2 ∨ h.op = 3 ∨ h.op = 4 ∨ h.op = 5 ∨ h.op = 6 := by
    have := hf.2.1; omega
  have hc : codeOk (codeF h.op) = true ∧ ((codeF h.op) == 5) = false := by
    rcases hop with hop | hop | hop | hop | hop | hop <;> rw [hop] <;> decide
  have h1 : okI (.sym (jmpS h yes no) :: R) := by
    refine ok_jump _ hc.1 hc.2 hR hne ?_ ?_
    · show goalsTo (bif swapF h.op then no else yes) R
      cases swapF h.op
      · exact hy
      · exact hn
    · show goalsTo (bif swapF h.op then yes else no) R
      cases swapF h.op
      · exact hn
      · exact hy
  have h2 : okI (maskI h ++ .sym (jmpS h yes no) :: R) := by
    unfold maskI
    cases h.mask == 4294967295 with
    | true => exact h1
    | false => exact ok_plain (andS h.mask) (by show codeOk 84 = true; decide) (by show ((84 : Int) == 5) = false; decide) (by show isJumpF 84 = false; decide) h1 (by simp)
  have e : testI h yes no ++ R = .sym (ldS (offF h)) :: (maskI h ++ .sym (jmpS h yes no) :: R) := by
    show .sym (ldS (offF h)) :: (maskI h ++ [.sym (jmpS h yes no)] ++ R) = _
    rw [List.append_assoc]; rfl
  rw [e]
  exact ok_plain (ldS (offF h)) (by show codeOk 32 = true; decide) (by show ((32 : Int) == 5) = false; decide) (by show isJumpF 32 = false; decide) h2 (by unfold maskI; cases h.mask == 4294967295 <;> simp)
theorem ok_halves (yes no next : Int) {R : List Item} (hR : okI R) (hne : R ≠ []) (hy : goalsTo yes R) (hn : goalsTo no R) : ∀ l : List Half, (∀ h ∈ l, h.fit) → okI (halvesI yes no next l ++ R) ∧ halvesI yes no next l ++ R ≠ []
  | [], _ => ⟨hR, hne⟩
  | [h], hf => by
    refine ⟨ok_test h (hf h (by simp)) yes _ hR hne hy ?_, by intro h; exact hne (List.append_eq_nil_iff.1 h).2⟩
    cases no == next
    · exact hn
    · exact .inl rfl
  | h :: g :: r, hf => by
    obtain ⟨i1, i2⟩ := ok_halves yes no next hR hne hy hn (g :: r) fun x hx => hf x (by simp [hx])
    have e : halvesI yes no next (h :: g :: r) ++ R = testI h 0 no ++ (halvesI yes no next (g :: r) ++ R) := by
      show testI h 0 no ++ halvesI yes no next (g :: r) ++ R = _
      rw [List.append_assoc]
    rw [e]
    exact ⟨ok_test h (hf h (by simp)) 0 no i1 i2 (.inl rfl) (goals_app _ hn), by intro h; exact i2 (List.append_eq_nil_iff.1 h).2⟩
theorem ok_clause (l : List Half) (hf : ∀ h ∈ l, h.fit) (yes no next : Int) {R : List Item} (hR : okI R) (hne : R ≠ []) (hy : goalsTo yes R) (hn : goalsTo no R) : okI (clauseI l yes no next ++ R) ∧ clauseI l yes no next ++ R ≠ [] := by
  obtain ⟨i1, i2⟩ := ok_halves yes no next hR hne hy hn l hf
  unfold clauseI
  rw [List.append_assoc]
  cases hb : (l.isEmpty && !(yes == 0)) with
  | false => exact ⟨i1, i2⟩
  | true =>
    rw [Bool.and_eq_true, Bool.not_eq_true', beq_eq_false_iff_ne] at hb
    have hyl := goals_app (halvesI yes no next l) hy
    refine ⟨⟨by show codeOk 5 = true; decide, ⟨fun _ => ?_, fun h => by cases (show isJumpF 5 = true from h)⟩, fun h => absurd h i2, i1⟩, by simp⟩
    rcases hyl with h | h
    · exact absurd h hb.2
    · exact h
theorem ok_clauses (act en : Int) {R : List Item} (hR : okI R) (hne : R ≠ []) (ha : act ∈ labsI R) (he : en ∈ labsI R) : ∀ (l : List (List Half)) (c : Int), 0 ≤ c → (∀ x ∈ l, ∀ h ∈ x, h.fit) → (∀ q ∈ labsI R, q ≤ c ∨ c + l.length ≤ q) → okI (clausesI act en c l ++ R) ∧ clausesI act en c l ++ R ≠ []
  | [], _, _, _, _ => ⟨hR, hne⟩
  | [l], c, _, hf, _ => ok_clause l (hf l (by simp)) 0 en 0 hR hne (.inl rfl) (.inr he)
  | l :: g :: r, c, hc, hf, hd => by
    simp only [List.length_cons] at hd
    obtain ⟨i1, i2⟩ := ok_clauses act en hR hne ha he (g :: r) (c + 1) (by omega) (fun x hx => hf x (by simp [hx])) (fun q hq => by
      have := hd q hq
      simp only [List.length_cons]; omega)
    have e : clausesI act en c (l :: g :: r) ++ R = clauseI l act (c + 1) (c + 1) ++ (.lab (c + 1) :: (clausesI act en (c + 1) (g :: r) ++ R)) := by
      show clauseI l act (c + 1) (c + 1) ++ .lab (c + 1) :: clausesI act en (c + 1) (g :: r) ++ R = _
      rw [List.append_assoc]; rfl
    rw [e]
    have hnot : c + 1 ∉ labsI (clausesI act en (c + 1) (g :: r) ++ R) := by
      rw [labs_app]
      intro h
      rcases List.mem_append.1 h with h | h
      · have := clauses_gt act en (g :: r) (c + 1) _ h; omega
      · have := hd _ h; omega
    refine ok_clause l (hf l (by simp)) act (c + 1) (c + 1) (ok_lab (by omega) i1 i2 hnot) (by simp) (.inr ?_) (.inr ?_)
    · show act ∈ (c + 1) :: labsI (clausesI act en (c + 1) (g :: r) ++ R)
      rw [labs_app]
      exact List.mem_cons_of_mem _ (List.mem_append_right _ ha)
    · show c + 1 ∈ (c + 1) :: _
      simp
theorem ok_step (v : Act → Int) (s : Stp) (n : Int) (hn : 0 ≤ n) (hs : s.fit) {R : List Item} (hR : okI R) (hne : R ≠ []) (hd : ∀ q ∈ labsI R, q ≤ n ∨ n + stepN s < q) : okI (stepI v s n ++ R) ∧ stepI v s n ++ R ≠ [] := by
  unfold stepI
  obtain ⟨cl, a⟩ := s
  unfold stepN at hd
  simp only at hd ⊢
  have hen : n + 2 ∉ labsI R := fun h => by have := hd _ h; omega
  have h1 : okI (.lab (n + 2) :: R) := ok_lab (by omega) hR hne hen
  cases cl with
  | nil => exact ⟨h1, by simp⟩
  | cons c r =>
    have e : clausesI (n + 1) (n + 2) (n + 2) (c :: r) ++ ((bif (c :: r).isEmpty then [] else [.lab (n + 1), .sym (retS (v a))]) ++ [.lab (n + 2)]) ++ R = clausesI (n + 1) (n + 2) (n + 2) (c :: r) ++ (.lab (n + 1) :: .sym (retS (v a)) :: .lab (n + 2) :: R) := by
      rw [List.append_assoc]; rfl
    rw [e]
    have hna : n + 1 ∉ labsI (.sym (retS (v a)) :: .lab (n + 2) :: R) := by
      intro h
      rcases List.mem_cons.1 (show n + 1 ∈ (n + 2) :: labsI R from h) with h | h
      · omega
      · have := hd _ h; omega
    refine ok_clauses (n + 1) (n + 2) (ok_lab (by omega) (ok_ret _ h1) (by simp) hna) (by simp) ?_ ?_ (c :: r) (n + 2) (by omega) hs ?_
    · show n + 1 ∈ (n + 1) :: (n + 2) :: labsI R
      simp
    · show n + 2 ∈ (n + 1) :: (n + 2) :: labsI R
      simp
    · intro q hq
      rcases List.mem_cons.1 (show q ∈ (n + 1) :: (n + 2) :: labsI R from hq) with rfl | hq
      · left; omega
      · rcases List.mem_cons.1 hq with rfl | hq
        · left; omega
        · have := hd q hq; omega
theorem ok_steps (v : Act → Int) {R : List Item} (hR : okI R) (hne : R ≠ []) : ∀ (l : List Stp) (n : Int), 0 ≤ n → (∀ s ∈ l, s.fit) → (∀ q ∈ labsI R, q ≤ n ∨ n + stepsN l < q) → okI (stepsI v l n ++ R) ∧ stepsI v l n ++ R ≠ []
  | [], _, _, _, _ => ⟨hR, hne⟩
  | s :: r, n, hn, hf, hd => by
    have p1 := stepN_pos s
    have p2 := stepsN_pos r
    rw [stepsN] at hd
    obtain ⟨i1, i2⟩ := ok_steps v hR hne r (n + stepN s) (by omega) (fun x hx => hf x (by simp [hx])) (fun q hq => by have := hd q hq; omega)
    have e : stepsI v (s :: r) n ++ R = stepI v s n ++ (stepsI v r (n + stepN s) ++ R) := by
      show stepI v s n ++ stepsI v r (n + stepN s) ++ R = _
      rw [List.append_assoc]
    rw [e]
    refine ok_step v s n hn (hf s (by simp)) i1 i2 ?_
    intro q hq
    rw [labs_app] at hq
    rcases List.mem_append.1 hq with hq | hq
    · have := steps_gt v r _ q hq; omega
    · have := hd q hq; omega
theorem ok_leaf (v : Act → Int) (x : Span) (hx : x.fit) (n : Int) (hn : 0 ≤ n) {R : List Item} (hR : okI R) (hd : ∀ q ∈ labsI R, q ≤ n ∨ n + stepsN x.steps < q) : okI (leafI v x n ++ R) ∧ leafI v x n ++ R ≠ [] := by
  unfold leafI
  rw [List.append_assoc]
  exact ok_steps v (ok_ret _ hR) (by simp) x.steps n hn hx hd
theorem ok_search (v : Act → Int) : ∀ (k : Nat) (l : List Span) (n : Int) (R : List Item), l ≠ [] → l.length ≤ k → 0 ≤ n → (∀ x ∈ l, x.fit) → okI R → (∀ q ∈ labsI R, q ≤ n ∨ n + spansN l ≤ q) → okI (searchI v k l n ++ R) ∧ searchI v k l n ++ R ≠ []
  | 0, l, n, R, hl, hk, _, _, _, _ => by
    cases l with
    | nil => exact absurd rfl hl
    | cons => simp at hk
  | k + 1, [], n, R, hl, _, _, _, _, _ => absurd rfl hl
  | k + 1, [x], n, R, _, _, hn, hf, hR, hd => ok_leaf v x (hf x (by simp)) n hn hR fun q hq => by
      have := hd q hq
      rw [spansN, spansN] at this; omega
  | k + 1, y :: z :: r, n, R, _, hk, hn, hf, hR, hd => by
    generalize hl : y :: z :: r = l at *
    have hlen : 2 ≤ l.length := by rw [← hl]; simp
    have e : searchI v (k + 1) l n ++ R = .sym ⟨0, n + 1, 0, 53, loAt l (l.length / 2)⟩ :: (searchI v k (l.take (l.length / 2)) (n + 1) ++ .lab (n + 1) :: (searchI v k (l.drop (l.length / 2)) (n + spansN (l.take (l.length / 2))) ++ R)) := by
      rw [← hl]
      show .sym _ :: (searchI v k _ (n + 1) ++ .lab (n + 1) :: searchI v k _ _) ++ R = _
      rw [List.cons_append, List.append_assoc]; rfl
    have hsp : spansN l = spansN (l.take (l.length / 2)) + spansN (l.drop (l.length / 2)) := by rw [← spansN_app, List.take_append_drop]
    have p1 := spansN_pos (l.take (l.length / 2))
    have p2 := spansN_pos (l.drop (l.length / 2))
    rw [List.length_take] at p1
    rw [List.length_drop] at p2
    rw [e]
    obtain ⟨i1, i2⟩ := ok_search v k (l.drop (l.length / 2)) (n + spansN (l.take (l.length / 2))) R (by intro h; have := congrArg List.length h; rw [List.length_drop, List.length_nil] at this; omega) (by rw [List.length_drop]; omega) (by omega) (fun z hz => hf z (List.mem_of_mem_drop hz)) hR (fun q hq => by have := hd q hq; omega)
    have hnot : n + 1 ∉ labsI (searchI v k (l.drop (l.length / 2)) (n + spansN (l.take (l.length / 2))) ++ R) := by
      rw [labs_app]
      intro h
      rcases List.mem_append.1 h with h | h
      · have := search_gt v k _ _ _ h; omega
      · have := hd _ h; omega
    obtain ⟨j1, j2⟩ := ok_search v k (l.take (l.length / 2)) (n + 1) (.lab (n + 1) :: (searchI v k (l.drop (l.length / 2)) (n + spansN (l.take (l.length / 2))) ++ R)) (by intro h; have := congrArg List.length h; rw [List.length_take, List.length_nil] at this; omega) (by rw [List.length_take]; omega) (by omega) (fun z hz => hf z (List.mem_of_mem_take hz)) (ok_lab (by omega) i1 i2 hnot) (by
      intro q hq
      rcases List.mem_cons.1 (show q ∈ (n + 1) :: labsI (searchI v k (l.drop (l.length / 2)) (n + spansN (l.take (l.length / 2))) ++ R) from hq) with rfl | hq
      · left; omega
      · rw [labs_app] at hq
        rcases List.mem_append.1 hq with hq | hq
        · have := search_gt v k _ _ _ hq; omega
        · have := hd q hq; omega)
    refine ⟨ok_jump _ (by show codeOk 53 = true; decide) (by show ((53 : Int) == 5) = false; decide) j1 j2 (.inr ?_) (.inl rfl), by simp⟩
    rw [labs_app]
    exact List.mem_append_right _ (by show n + 1 ∈ (n + 1) :: _; simp)
theorem ok_code (v : Act → Int) (arch kill : Int) (l : List Span) (hl : l ≠ []) (hf : ∀ x ∈ l, x.fit) : okI (codeI v arch kill l) := by
  obtain ⟨i1, i2⟩ := ok_search v l.length l 1 [] hl (Nat.le_refl _) (by decide) hf trivial (fun q hq => by cases hq)
  rw [List.append_nil] at i1 i2
  have h1 : okI (.sym (ldS 0) :: searchI v l.length l 1) := ok_plain (ldS 0) (by show codeOk 32 = true; decide) (by show ((32 : Int) == 5) = false; decide) (by show isJumpF 32 = false; decide) i1 i2
  have h2 : okI (.lab 1 :: .sym (ldS 0) :: searchI v l.length l 1) := ok_lab (by decide) h1 (by simp) (fun h => by
    have := search_gt v l.length l 1 1 h; omega)
  have h3 := ok_ret kill h2
  have h4 : okI (.sym ⟨0, 1, 0, 21, arch⟩ :: .sym (retS kill) :: .lab 1 :: .sym (ldS 0) :: searchI v l.length l 1) := ok_jump _ (by show codeOk 21 = true; decide) (by show ((21 : Int) == 5) = false; decide) h3 (by simp) (.inr (by show (1 : Int) ∈ (1 : Int) :: _; simp)) (.inl rfl)
  exact ok_plain (ldS 4) (by show codeOk 32 = true; decide) (by show ((32 : Int) == 5) = false; decide) (by show isJumpF 32 = false; decide) h4 (by simp)
/-! what may be, is right -/
end Go.Proofs.Ytcplpllbinilmaa
/- Code of spans is a row that may be linked, runs as it should, and is not long. -/
namespace Go.Proofs.Ytcplpllbinilmaa
open Go Go.Am Go.Proofs
set_option maxRecDepth 10000
set_option maxHeartbeats 4000000
set_option linter.unusedVariables false
set_option linter.unusedSimpArgs false
theorem dup_none {p : Int} {l : List Sym} (h : ∀ y ∈ l, y.label > 0 → y.label ≠ p) : dupF p l = false := by
  unfold dupF
  rw [Bool.eq_false_iff]
  intro h2
  rw [List.any_eq_true] at h2
  obtain ⟨y, hy, h3⟩ := h2
  simp only [Bool.and_eq_true, decide_eq_true_eq, beq_iff_eq] at h3
  exact h y hy (by omega) h3.2
theorem take_snoc {α : Type} {l : List α} {j : Nat} {x : α} {r : List α} (h : l.drop j = x :: r) : l.take (j + 1) = l.take j ++ [x] := by
  have h0 : l[j]? = some x := by
    have : (l.drop j)[0]? = some x := by rw [h]; rfl
    rwa [List.getElem?_drop, Nat.add_zero] at this
  rw [List.take_add_one, h0]; rfl
theorem good_asm (L : List Sym) : ∀ (I : List Item) (p : Int) (j : Nat), okI I → 0 ≤ p → (∀ q ∈ labsI I, q ≠ p) → L.drop j = asm p I → (∀ y ∈ L.take j, y.label > 0 → y.label ≠ p ∧ y.label ∉ labsI I) → goodF L j (asm p I) = true
  | [], p, j, _, _, _, _, _ => rfl
  | .lab n :: r, p, j, hok, hp, hpn, hL, hd => by
    have hnr : ∀ q ∈ labsI r, q ≠ n := fun q hq e => hok.2.1 (e ▸ hq)
    have hL : L.drop j = bif p == 0 then asm n r else txaS.at_ p :: asm n r := hL
    show goodF L j (bif p == 0 then asm n r else txaS.at_ p :: asm n r) = true
    cases hp0 : p == 0 with
    | true =>
      rw [hp0] at hL
      refine good_asm L r n j hok.2.2.2 (by have := hok.1; omega) hnr hL ?_
      intro y hy h
      obtain ⟨_, h2⟩ := hd y hy h
      exact ⟨fun e => h2 (by rw [e]; show n ∈ n :: labsI r; simp), fun e => h2 (List.mem_cons_of_mem _ e)⟩
    | false =>
      rw [hp0] at hL
      simp only [cond_false] at hL ⊢
      have hbad : badF L j (txaS.at_ p) = false := by
        unfold badF
        have e1 : decide ((txaS.at_ p).label < 0) = false := by rw [decide_eq_false_iff_not]; show ¬ p < 0; omega
        have e2 : dupF (txaS.at_ p).label (L.take j) = false := dup_none fun y hy h => (hd y hy h).1
        rw [e1, e2]; rfl
      rw [goodF, hbad]
      refine good_asm L r n (j + 1) hok.2.2.2 (by have := hok.1; omega) hnr (by rw [← List.drop_drop, hL]; rfl) ?_
      intro y hy h
      rw [take_snoc hL] at hy
      rcases List.mem_append.1 hy with hy | hy
      · obtain ⟨_, h2⟩ := hd y hy h
        exact ⟨fun e => h2 (by rw [e]; show n ∈ n :: labsI r; simp), fun e => h2 (List.mem_cons_of_mem _ e)⟩
      · rw [List.mem_singleton] at hy
        subst hy
        exact ⟨fun e => hpn n (by show n ∈ n :: labsI r; simp) e.symm, fun e => hpn p (List.mem_cons_of_mem _ e) rfl⟩
  | .sym x :: r, p, j, hok, hp, hpn, hL, hd => by
    have hL : L.drop j = x.at_ p :: asm 0 r := hL
    show goodF L j (x.at_ p :: asm 0 r) = true
    have hL2 : L.drop (j + 1) = asm 0 r := by rw [← List.drop_drop, hL]; rfl
    have hpos := labs_pos r hok.2.2.2
    have hto : ∀ t, t ∈ labsI r → 0 < t ∧ 0 ≤ placeF L j t := by
      intro t ht
      have htp := hpos t ht
      obtain ⟨c, h1, _⟩ := seek_asm t htp r 0 ((j + 1 : Nat) : Int) hok.2.2.2 (by omega) ht
      unfold placeF
      rw [hL2, h1]
      exact ⟨htp, by omega⟩
    have hbad : badF L j (x.at_ p) = false := by
      unfold badF badT badR
      have e1 : decide ((x.at_ p).label < 0) = false := by rw [decide_eq_false_iff_not]; show ¬ p < 0; omega
      have e2 : dupF (x.at_ p).label (L.take j) = false := dup_none fun y hy h => (hd y hy h).1
      have e3 : codeOk (x.at_ p).code = true := hok.1
      rw [e1, e2, e3]
      have side : ∀ t, (t = 0 ∨ t ∈ labsI r) → (decide (t < 0) || (decide (t > 0) && decide (placeF L j t < 0))) = false := by
        intro t ht
        rcases ht with rfl | ht
        · rfl
        · obtain ⟨h1, h2⟩ := hto t ht
          have a1 : decide (t < 0) = false := by rw [decide_eq_false_iff_not]; omega
          have a2 : decide (placeF L j t < 0) = false := by rw [decide_eq_false_iff_not]; omega
          rw [a1, a2]; simp
      show ((((false || !true) || false) || ((x.code == 5 || isJumpF x.code) && ((decide (x.t < 0) || (decide (x.t > 0) && decide (placeF L j x.t < 0))) || (x.t == 0 && x.code == 5)))) || (isJumpF x.code && (decide (x.f < 0) || (decide (x.f > 0) && decide (placeF L j x.f < 0))))) = false
      cases h5 : x.code == 5 with
      | true =>
        have hc : x.code = 5 := by simpa using h5
        have ht := hok.2.1.1 hc
        rw [side x.t (.inr ht), show isJumpF x.code = false from by rw [hc]; decide, show (x.t == 0) = false from by rw [beq_eq_false_iff_ne]; have := hpos _ ht; omega]
        rfl
      | false =>
        cases hj : isJumpF x.code with
        | true =>
          obtain ⟨k1, k2⟩ := hok.2.1.2 hj
          rw [side x.t k1, side x.f k2]; simp
        | false => simp
    rw [goodF, hbad]
    refine good_asm L r 0 (j + 1) hok.2.2.2 (Int.le_refl 0) (fun q hq e => by have := hpos q hq; omega) hL2 ?_
    intro y hy h
    rw [take_snoc hL] at hy
    rcases List.mem_append.1 hy with hy | hy
    · exact ⟨by omega, (hd y hy h).2⟩
    · rw [List.mem_singleton] at hy
      subst hy
      exact ⟨by omega, fun e => hpn p e rfl⟩
theorem last_asm : ∀ (I : List Item) (p : Int), okI I → I ≠ [] → ∃ x, (asm p I).getLast? = some x ∧ endsF x.code = true
  | [], _, _, h => absurd rfl h
  | .lab n :: r, p, hok, _ => by
    obtain ⟨x, h1, h2⟩ := last_asm r n hok.2.2.2 hok.2.2.1
    refine ⟨x, ?_, h2⟩
    show (bif p == 0 then asm n r else txaS.at_ p :: asm n r).getLast? = some x
    cases p == 0 with
    | true => exact h1
    | false =>
      simp only [cond_false]
      cases hh : asm n r with
      | nil => rw [hh] at h1; cases h1
      | cons a b => rw [hh] at h1; rw [List.getLast?_cons_cons]; exact h1
  | .sym x :: r, p, hok, _ => by
    show ∃ y, (x.at_ p :: asm 0 r).getLast? = some y ∧ endsF y.code = true
    cases r with
    | nil => exact ⟨x.at_ p, rfl, hok.2.2.1 rfl⟩
    | cons z r =>
      obtain ⟨y, h1, h2⟩ := last_asm (z :: r) 0 hok.2.2.2 (by simp)
      refine ⟨y, ?_, h2⟩
      cases hh : asm 0 (z :: r) with
      | nil => rw [hh] at h1; cases h1
      | cons a b => rw [hh] at h1; rw [List.getLast?_cons_cons]; exact h1
theorem asm_right {I : List Item} (hok : okI I) (hne : I ≠ []) : rightF (asm 0 I) = true := by
  unfold rightF
  have h1 := good_asm (asm 0 I) I 0 0 hok (Int.le_refl 0) (fun q hq e => by have := labs_pos I hok q hq; omega) rfl (fun y hy => by cases hy)
  obtain ⟨x, h2, h3⟩ := last_asm I 0 hok hne
  rw [h1, show lastF (asm 0 I) = true from by unfold lastF; rw [h2]; exact h3]
  cases hh : asm 0 I with
  | nil => exact absurd hh (asm_ne 0 I hok hne)
  | cons a b => rfl
theorem asm_len : ∀ (I : List Item) (p : Int), (asm p I).length ≤ I.length
  | [], _ => Nat.le_refl _
  | .lab n :: r, p => by
    show (bif p == 0 then asm n r else txaS.at_ p :: asm n r).length ≤ r.length + 1
    have := asm_len r n
    cases p == 0 <;> simp only [cond_true, cond_false, List.length_cons] <;> omega
  | .sym x :: r, p => by
    show (x.at_ p :: asm 0 r).length ≤ r.length + 1
    have := asm_len r 0
    rw [List.length_cons]; omega
theorem asm_val {I : List Item} (hok : okI I) (hne : I ≠ []) (d : Dat) : runSyms (asm 0 I) d ((asm 0 I).length + 1) 0 Mach.zero = val d false I Mach.zero :=
  asm_run (asm 0 I) d (I.length + 1) I 0 0 ((asm 0 I).length + 1) Mach.zero (Nat.lt_succ_self _) hok hne (Int.le_refl 0) rfl (Nat.lt_succ_self _) (fun q hq e => by have := labs_pos I hok q hq; omega)
/-! how long -/
def clausesC : List (List Half) → Nat
  | [] => 0
  | c :: r => 1 + c.length + clausesC r
def stepsC : List Stp → Nat
  | [] => 0
  | s :: r => 1 + clausesC s.clauses + stepsC r
def partsC : List Span → Nat
  | [] => 0
  | x :: r => 1 + stepsC x.steps + partsC r
theorem halves_len (yes no next : Int) : ∀ l : List Half, (halvesI yes no next l).length ≤ 3 * l.length
  | [] => Nat.le_refl _
  | [h] => by
    show (maskI h ++ [_]).length + 1 ≤ 3
    unfold maskI
    cases h.mask == 4294967295 <;> simp
  | h :: g :: r => by
    have ih := halves_len yes no next (g :: r)
    show (testI h 0 no ++ halvesI yes no next (g :: r)).length ≤ _
    have : (testI h 0 no).length ≤ 3 := by
      show (maskI h ++ [_]).length + 1 ≤ 3
      unfold maskI
      cases h.mask == 4294967295 <;> simp
    rw [List.length_append, List.length_cons]; omega
theorem clause_len (l : List Half) (yes no next : Int) : (clauseI l yes no next).length ≤ 3 * l.length + 1 := by
  unfold clauseI
  have := halves_len yes no next l
  rw [List.length_append]
  cases (l.isEmpty && !(yes == 0)) <;> simp only [cond_true, cond_false, List.length_cons, List.length_nil] <;> omega
theorem clauses_len (act en : Int) : ∀ (l : List (List Half)) (c : Int), (clausesI act en c l).length ≤ 3 * clausesC l
  | [], _ => Nat.le_refl _
  | [l], c => by
    have := clause_len l 0 en 0
    show (clauseI l 0 en 0).length ≤ 3 * (1 + l.length + 0)
    omega
  | l :: g :: r, c => by
    have ih := clauses_len act en (g :: r) (c + 1)
    have := clause_len l act (c + 1) (c + 1)
    show (clauseI l act (c + 1) (c + 1) ++ .lab (c + 1) :: clausesI act en (c + 1) (g :: r)).length ≤ 3 * (1 + l.length + clausesC (g :: r))
    rw [List.length_append, List.length_cons]; omega
theorem step_len (v : Act → Int) (s : Stp) (n : Int) : (stepI v s n).length ≤ 3 * (1 + clausesC s.clauses) := by
  unfold stepI
  have := clauses_len (n + 1) (n + 2) s.clauses (n + 2)
  rw [List.length_append, List.length_append]
  cases s.clauses.isEmpty <;> simp only [cond_true, cond_false, List.length_cons, List.length_nil] <;> omega
theorem steps_len (v : Act → Int) : ∀ (l : List Stp) (n : Int), (stepsI v l n).length ≤ 3 * stepsC l
  | [], _ => Nat.le_refl _
  | s :: r, n => by
    have := step_len v s n
    have := steps_len v r (n + stepN s)
    show (stepI v s n ++ stepsI v r (n + stepN s)).length ≤ 3 * (1 + clausesC s.clauses + stepsC r)
    rw [List.length_append]; omega
theorem partsC_app : ∀ a b : List Span, partsC (a ++ b) = partsC a + partsC b
  | [], b => by simp [partsC]
  | x :: a, b => by rw [List.cons_append, partsC, partsC, partsC_app a b]; omega
theorem search_len (v : Act → Int) : ∀ (k : Nat) (l : List Span) (n : Int), (searchI v k l n).length + 2 ≤ 3 * partsC l + 2 ∧ (l ≠ [] → (searchI v k l n).length + 2 ≤ 3 * partsC l)
  | 0, l, n => by
    refine ⟨by show 0 + 2 ≤ _; omega, fun h => ?_⟩
    cases l with
    | nil => exact absurd rfl h
    | cons x r => show 0 + 2 ≤ 3 * (1 + stepsC x.steps + partsC r); omega
  | k + 1, [], n => ⟨by show 0 + 2 ≤ _; omega, fun h => absurd rfl h⟩
  | k + 1, [x], n => by
    have h1 : (searchI v (k + 1) [x] n).length + 2 ≤ 3 * partsC [x] := by
      have := steps_len v x.steps n
      show (stepsI v x.steps n ++ [_]).length + 2 ≤ 3 * (1 + stepsC x.steps + 0)
      rw [List.length_append]; simp only [List.length_cons, List.length_nil]; omega
    exact ⟨by omega, fun _ => h1⟩
  | k + 1, y :: z :: r, n => by
    generalize hl : y :: z :: r = l at *
    have hlen : 2 ≤ l.length := by rw [← hl]; simp
    have e : searchI v (k + 1) l n = .sym ⟨0, n + 1, 0, 53, loAt l (l.length / 2)⟩ :: (searchI v k (l.take (l.length / 2)) (n + 1) ++ .lab (n + 1) :: searchI v k (l.drop (l.length / 2)) (n + spansN (l.take (l.length / 2)))) := by rw [← hl]; rfl
    have hp : partsC l = partsC (l.take (l.length / 2)) + partsC (l.drop (l.length / 2)) := by rw [← partsC_app, List.take_append_drop]
    have i1 := (search_len v k (l.take (l.length / 2)) (n + 1)).2 (by intro h; have := congrArg List.length h; rw [List.length_take, List.length_nil] at this; omega)
    have i2 := (search_len v k (l.drop (l.length / 2)) (n + spansN (l.take (l.length / 2)))).2 (by intro h; have := congrArg List.length h; rw [List.length_drop, List.length_nil] at this; omega)
    have h1 : (searchI v (k + 1) l n).length + 2 ≤ 3 * partsC l := by
      rw [e, List.length_cons, List.length_append, List.length_cons]; omega
    exact ⟨by omega, fun _ => h1⟩
theorem code_len (v : Act → Int) (arch kill : Int) (l : List Span) : (codeI v arch kill l).length ≤ 3 * partsC l + 5 := by
  have := (search_len v l.length l 1).1
  show (searchI v l.length l 1).length + 5 ≤ _
  omega
end Go.Proofs.Ytcplpllbinilmaa
