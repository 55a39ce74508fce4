/- A part of a proof: functions of the program, walked over the abstract machine. -/
import Derived.Test.YtceccgnpkelpkaaSpan15
set_option linter.unusedVariables false
set_option linter.unusedSimpArgs false
namespace Go.Proofs.Ytceccgnpkelpkaa
open Go Go.Am Go.Proofs
/-! what spans are, in plain Lean -/
theorem Act.eq2_iff {a b : Act} : a.eq2 b = true ↔ a = b := by
  obtain ⟨x, y⟩ := a; obtain ⟨z, w⟩ := b
  simp [Act.eq2]
theorem pw_eq {α : Type} {f : α → α → Bool} (hf : ∀ x y, f x y = true → x = y) : ∀ {l m : List α}, pw f l m = true → l = m
  | [], [], _ => rfl
  | [], _ :: _, h => by simp [pw] at h
  | _ :: _, [], h => by simp [pw] at h
  | x :: l, y :: m, h => by
    simp only [pw, Bool.and_eq_true] at h
    rw [hf _ _ h.1, pw_eq hf h.2]
theorem Half.eqb_eq (a b : Half) (h : a.eqb b = true) : a = b := by
  obtain ⟨xa, xo, xh, xm, xv⟩ := a
  obtain ⟨ya, yo, yh, ym, yv⟩ := b
  simpa [Half.eqb] using h
theorem Stp.eqb_eq (a b : Stp) (h : a.eqb b = true) : a = b := by
  obtain ⟨xc, xa⟩ := a
  obtain ⟨yc, ya⟩ := b
  simp only [Stp.eqb, Bool.and_eq_true] at h
  rw [Act.eq2_iff.1 h.1, pw_eq (fun x y h => pw_eq Half.eqb_eq h) h.2]
theorem Span.like_eq {a b : Span} (h : a.like b = true) : a.act = b.act ∧ a.steps = b.steps := by
  simp only [Span.like, Bool.and_eq_true] at h
  exact ⟨Act.eq2_iff.1 h.1, pw_eq Stp.eqb_eq h.2⟩
/-- spans one behind the other, from a to b -/
def tiled : Int → List Span → Int → Prop
  | a, [], b => a = b
  | a, s :: r, b => s.lo = a ∧ s.lo ≤ s.hi ∧ tiled (s.hi + 1) r b
def differ (x y : Span) : Prop := ¬ (y.act = x.act ∧ y.steps = x.steps)
/-- neighbours are led otherwise -/
def apart : List Span → Prop
  | [] => True
  | [_] => True
  | x :: y :: r => differ x y ∧ apart (y :: r)
theorem tiled_add {x : Span} (hx : x.lo ≤ x.hi) : ∀ {l : List Span} {a : Int}, tiled a l x.lo → tiled a (addF l x) (x.hi + 1)
  | [], a, h => ⟨h.symm, hx, rfl⟩
  | [y], a, h => by
    obtain ⟨h1, h2, h3⟩ := h
    have h3 : y.hi + 1 = x.lo := h3
    simp only [addF]
    split
    · exact ⟨h1, by show y.lo ≤ x.hi; omega, rfl⟩
    · exact ⟨h1, h2, h3.symm, hx, rfl⟩
  | y :: z :: r, a, h => by
    obtain ⟨h1, h2, h3⟩ := h
    exact ⟨h1, h2, tiled_add hx (l := z :: r) h3⟩
theorem addF_head (x : Span) : ∀ (z : Span) (r : List Span), ∃ z' r', addF (z :: r) x = z' :: r' ∧ z'.act = z.act ∧ z'.steps = z.steps
  | z, [] => by
    simp only [addF]
    split
    · exact ⟨_, _, rfl, rfl, rfl⟩
    · exact ⟨_, _, rfl, rfl, rfl⟩
  | z, w :: r => ⟨z, addF (w :: r) x, rfl, rfl, rfl⟩
theorem apart_add (x : Span) : ∀ {l : List Span}, apart l → apart (addF l x)
  | [], _ => trivial
  | [y], _ => by
    simp only [addF]
    split
    · trivial
    · rename_i h
      refine ⟨fun hc => h ?_, trivial⟩
      simp only [Span.like, hc.1, hc.2, Bool.and_eq_true]
      exact ⟨Act.eq2_iff.2 rfl, pw_refl Stp.eqb_refl _⟩
  | y :: z :: r, h => by
    obtain ⟨h1, h2⟩ := h
    have h3 := apart_add x h2
    obtain ⟨z', r', e, g1, g2⟩ := addF_head x z r
    show apart (y :: addF (z :: r) x)
    rw [e] at h3 ⊢
    exact ⟨fun hc => h1 ⟨g1 ▸ hc.1, g2 ▸ hc.2⟩, h3⟩
/-- each number of each span is led as it should -/
def vals (a : Six) (w : Int → Act) (l : List Span) : Prop := ∀ s ∈ l, ∀ n, s.lo ≤ n → n ≤ s.hi → ledActF a s.steps s.act = w n
theorem vals_add {a : Six} {w : Int → Act} {x : Span} (hx : ∀ n, x.lo ≤ n → n ≤ x.hi → ledActF a x.steps x.act = w n) : ∀ {l : List Span} {b : Int}, tiled b l x.lo → vals a w l → vals a w (addF l x)
  | [], b, _, _ => by
    intro s hs
    simp only [addF, List.mem_singleton] at hs
    subst hs; exact hx
  | [y], b, ht, h => by
    obtain ⟨h1, h2, h3⟩ := ht
    have h3 : y.hi + 1 = x.lo := h3
    intro s hs n g1 g2
    simp only [addF] at hs
    split at hs
    · rename_i hl
      simp only [List.mem_singleton] at hs
      subst hs
      obtain ⟨e1, e2⟩ := Span.like_eq hl
      by_cases hn : n ≤ y.hi
      · exact h y (by simp) n g1 hn
      · show ledActF a y.steps y.act = w n
        rw [e1, e2]
        exact hx n (by omega) g2
    · simp only [List.mem_cons, List.not_mem_nil, or_false] at hs
      rcases hs with rfl | rfl
      · exact h s (by simp) n g1 g2
      · exact hx n g1 g2
  | y :: z :: r, b, ht, h => by
    have := vals_add hx (l := z :: r) ht.2.2 (fun s hs => h s (by simp [hs]))
    intro s hs
    have hs : s = y ∨ s ∈ addF (z :: r) x := by simpa [addF] using hs
    rcases hs with rfl | hs
    · exact h _ (by simp)
    · exact this s hs
theorem someF_ends {a : Six} {s : Stp} (h : s.ends = true) : someF a s.clauses = true := by
  unfold Stp.ends at h
  unfold someF
  rw [List.any_eq_true] at h ⊢
  obtain ⟨c, hc, h⟩ := h
  refine ⟨c, hc, ?_⟩
  have : c = [] := by simpa [noneF] using h
  subst this; rfl
theorem ledF_act (a : Six) (d : Act) : ∀ l : List Stp, ledActF a (ledF l d).1 (ledF l d).2 = ledActF a l d
  | [] => rfl
  | [s] => by
    simp only [ledF]
    split
    · rename_i h
      simp only [ledActF, someF_ends h, if_true]
    · rfl
  | s :: t :: r => by
    have := ledF_act a d (t :: r)
    show (if someF a s.clauses = true then s.act else ledActF a (ledF (t :: r) d).1 (ledF (t :: r) d).2) = _
    rw [this]; rfl
/-- what is wanted -/
def wantF (a : Six) (d : Act) (n : Int) : List Chn → Act → Act
  | [], w => w
  | c :: r, w => wantF a d n r (if c.nr = n then ledActF a c.steps d else w)
theorem want_out (a : Six) (d : Act) (n : Int) : ∀ (l : List Chn) (w : Act), (∀ c ∈ l, c.nr ≠ n) → wantF a d n l w = w
  | [], w, _ => rfl
  | c :: r, w, h => by
    rw [wantF, if_neg (h c (by simp))]
    exact want_out a d n r w fun c hc => h c (by simp [hc])
theorem incr_gt : ∀ {l : List Chn} {p : Int}, incr p l = true → ∀ c ∈ l, p < c.nr
  | [], p, _, c, hc => by simp at hc
  | x :: r, p, h, c, hc => by
    simp only [incr] at h
    by_cases hx : x.nr ≤ p
    · rw [if_pos hx] at h; simp at h
    rw [if_neg hx] at h
    rcases List.mem_cons.1 hc with rfl | hc
    · omega
    · have := incr_gt h c hc; omega
theorem ofF_all (a : Six) (d : Act) : ∀ (l : List Chn) (f : Int) (out : List Span) (w : Int → Act), incr (f - 1) l = true → (∀ c ∈ l, c.nr < 4294967296) → 0 ≤ f → f ≤ 4294967296 →
    tiled 0 out f → apart out → vals a w out → (∀ c ∈ l, w c.nr = ledActF a c.steps d) → (∀ n, f ≤ n → (∀ c ∈ l, c.nr ≠ n) → w n = d) →
    tiled 0 (ofF d l f out) 4294967296 ∧ apart (ofF d l f out) ∧ vals a w (ofF d l f out)
  | [], f, out, w, _, _, h0, h1, ht, hap, hv, _, hd => by
    simp only [ofF]
    split
    · rename_i hf
      exact ⟨tiled_add (x := ⟨f, 4294967295, [], d⟩) hf ht, apart_add _ hap, vals_add (x := ⟨f, 4294967295, [], d⟩) (fun n g1 g2 => (hd n g1 (by simp)).symm) ht hv⟩
    · rename_i hf
      have : f = 4294967296 := by omega
      subst this
      exact ⟨ht, hap, hv⟩
  | c :: r, f, out, w, hi, hlt, h0, h1, ht, hap, hv, hc, hd => by
    have hgt := incr_gt hi c (by simp)
    have hlt1 := hlt c (by simp)
    have hi' : incr c.nr r = true := by
      simp only [incr] at hi
      rw [if_neg (by omega)] at hi; exact hi
    simp only [ofF]
    rw [if_neg (by omega)]
    have hl : ∀ n, (c.led d).lo ≤ n → n ≤ (c.led d).hi → ledActF a (c.led d).steps (c.led d).act = w n := by
      intro n g1 g2
      have : n = c.nr := Int.le_antisymm g2 g1
      subst this
      rw [hc c (by simp)]
      exact ledF_act a d c.steps
    have hd' : ∀ n, c.nr + 1 ≤ n → (∀ c ∈ r, c.nr ≠ n) → w n = d := fun n g1 g2 => hd n (by omega) fun x hx => by
      rcases List.mem_cons.1 hx with rfl | hx
      · omega
      · exact g2 x hx
    by_cases hf : f < c.nr
    · rw [if_pos hf]
      have t1 : tiled 0 (addF out ⟨f, c.nr - 1, [], d⟩) c.nr := by
        have := tiled_add (x := ⟨f, c.nr - 1, [], d⟩) (by show f ≤ c.nr - 1; omega) ht
        have e : c.nr - 1 + 1 = c.nr := by omega
        simp only [e] at this; exact this
      have v1 : vals a w (addF out ⟨f, c.nr - 1, [], d⟩) := vals_add (x := ⟨f, c.nr - 1, [], d⟩) (fun n g1 g2 => by
        have g1 : f ≤ n := g1
        have g2 : n ≤ c.nr - 1 := g2
        refine (hd n g1 fun x hx => ?_).symm
        rcases List.mem_cons.1 hx with rfl | hx
        · omega
        · have := incr_gt hi' x hx; omega) ht hv
      exact ofF_all a d r (c.nr + 1) _ w (by rw [show c.nr + 1 - 1 = c.nr by omega]; exact hi') (fun x hx => hlt x (by simp [hx])) (by omega) (by omega)
        (tiled_add (x := c.led d) (by exact Int.le_refl _) t1) (apart_add _ (apart_add _ hap)) (vals_add hl t1 v1) (fun x hx => hc x (by simp [hx])) hd'
    · rw [if_neg hf]
      have : f = c.nr := by omega
      subst this
      exact ofF_all a d r (c.nr + 1) _ w (by rw [show c.nr + 1 - 1 = c.nr by omega]; exact hi') (fun x hx => hlt x (by simp [hx])) (by omega) (by omega)
        (tiled_add (x := c.led d) (by exact Int.le_refl _) ht) (apart_add _ hap) (vals_add hl ht hv) (fun x hx => hc x (by simp [hx])) hd'
theorem want_in (a : Six) (d : Act) : ∀ (l : List Chn) (w : Act) (p : Int), incr p l = true → ∀ c ∈ l, wantF a d c.nr l w = ledActF a c.steps d
  | [], w, p, _, c, hc => by simp at hc
  | x :: r, w, p, h, c, hc => by
    have hi' : incr x.nr r = true := by
      have := incr_gt h x (by simp)
      simp only [incr] at h
      rw [if_neg (by omega)] at h; exact h
    rcases List.mem_cons.1 hc with rfl | hc
    · rw [wantF, if_pos rfl]
      exact want_out a d _ r _ fun y hy => by have := incr_gt hi' y hy; omega
    · exact want_in a d r _ _ hi' c hc
theorem of_all (a : Six) (d : Act) (l : List Chn) (hok : ∀ c ∈ l, c.fine) (hi : incrs l = true) :
    tiled 0 (ofF d l 0 []) 4294967296 ∧ apart (ofF d l 0 []) ∧ vals a (fun n => wantF a d n l d) (ofF d l 0 []) := by
  have hi' : incr (0 - 1) l = true := by rw [← incrs_eq hok]; exact hi
  exact ofF_all a d l 0 [] _ hi' (fun c hc => (hok c hc).2.2) (by omega) (by omega) rfl trivial (fun s hs => by simp at hs) (fun c hc => want_in a d l d _ hi' c hc) (fun n _ hn => want_out a d n l d hn)
theorem ixF_at {α : Type} (p : α → Bool) : ∀ (pre : List α) (s : α) (post : List α) (j : Int), (∀ x ∈ pre, p x = false) → p s = true → ixF p (pre ++ s :: post) j = j + pre.length
  | [], s, post, j, _, h => by simp [ixF, h]
  | x :: pre, s, post, j, hp, h => by
    show ixF p (x :: (pre ++ s :: post)) j = _
    rw [ixF, hp x (by simp)]
    simp only [Bool.false_eq_true, if_false]
    rw [ixF_at p pre s post (j + 1) (fun y hy => hp y (by simp [hy])) h]
    simp only [List.length_cons]; omega
theorem tiled_find {n : Int} : ∀ {l : List Span} {a b : Int}, tiled a l b → a ≤ n → n < b → ∃ pre s post, l = pre ++ s :: post ∧ (∀ x ∈ pre, x.has n = false) ∧ s.lo ≤ n ∧ n ≤ s.hi
  | [], a, b, h, h1, h2 => by have h : a = b := h; omega
  | s :: r, a, b, h, h1, h2 => by
    obtain ⟨g1, g2, g3⟩ := h
    by_cases hn : n ≤ s.hi
    · exact ⟨[], s, r, rfl, by simp, by omega, hn⟩
    · obtain ⟨pre, t, post, rfl, k1, k2⟩ := tiled_find g3 (by omega) h2
      refine ⟨s :: pre, t, post, rfl, fun x hx => ?_, k2⟩
      rcases List.mem_cons.1 hx with rfl | hx
      · simp [Span.has, hn]
      · exact k1 x hx
theorem tiled_last : ∀ {ys : List Span} {s : Span} {a b : Int}, tiled a (ys ++ [s]) b → s.hi + 1 = b
  | [], s, a, b, h => h.2.2
  | y :: ys, s, a, b, h => tiled_last h.2.2
/-- two neighbours -/
theorem tiled_pair : ∀ {done : List Span} {p q : Span} {rest : List Span} {a b : Int}, tiled a (done ++ p :: q :: rest) b → 0 ≤ a → q.lo = p.hi + 1 ∧ 0 < q.lo ∧ q.lo ≤ q.hi ∧ q.hi < b
  | [], p, q, rest, a, b, h, h0 => by
    obtain ⟨h1, h2, h3, h4, h5⟩ := h
    have : ∀ {l : List Span} {a b : Int}, tiled a l b → a ≤ b := by
      intro l
      induction l with
      | nil => intro a b h; have h : a = b := h; omega
      | cons s l ih => intro a b h; have := ih h.2.2; have := h.1; have := h.2.1; omega
    have := this h5
    exact ⟨h3, by omega, h4, by omega⟩
  | d :: done, p, q, rest, a, b, h, h0 => tiled_pair (done := done) h.2.2 (by have := h.1; have := h.2.1; omega)
theorem apart_pair : ∀ {done : List Span} {p q : Span} {rest : List Span}, apart (done ++ p :: q :: rest) → differ p q
  | [], p, q, rest, h => h.1
  | [d], p, q, rest, h => h.2.1
  | d :: e :: done, p, q, rest, h => apart_pair (done := e :: done) h.2
end Go.Proofs.Ytceccgnpkelpkaa
