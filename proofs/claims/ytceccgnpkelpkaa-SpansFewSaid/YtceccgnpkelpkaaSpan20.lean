/- A part of a proof: functions of the program, walked over the abstract machine. -/
import Derived.Test.YtceccgnpkelpkaaSpan19
set_option linter.unusedVariables false
set_option linter.unusedSimpArgs false
namespace Go.Proofs.Ytceccgnpkelpkaa
open Go Go.Am Go.Proofs
/-! numbers that are all led as the default, and one that is not -/
def oneC (d : Act) (n : Int) : Chn := ⟨n, [⟨[[]], d⟩]⟩
theorem oneC_led (d e : Act) (n : Int) : (oneC e n).led d = ⟨n, n, [], e⟩ := rfl
/-- what there is ahead of a number -/
def stF (d : Act) (f : Int) : List Span := if f = 0 then [] else [⟨0, f - 1, [], d⟩]
theorem like_same (x y : Span) (h : x.act = y.act) (hs : x.steps = y.steps) : x.like y = true := by
  simp only [Span.like, h, hs, Bool.and_eq_true]
  exact ⟨Act.eq2_iff.2 rfl, pw_refl Stp.eqb_refl _⟩
theorem like_diff (x y : Span) (h : x.act ≠ y.act) : x.like y = false := by
  rw [Bool.eq_false_iff]
  intro hl
  exact h (Span.like_eq hl).1
theorem likeD (a b c e : Int) (d : Act) : Span.like ⟨a, b, [], d⟩ ⟨c, e, [], d⟩ = true := like_same _ _ rfl rfl
theorem extD (l : List Span) (a b c e : Int) (d : Act) : addF (l ++ [⟨a, b, [], d⟩]) ⟨c, e, [], d⟩ = l ++ [⟨a, e, [], d⟩] := by rw [addF_last, likeD]; rfl
theorem stF_add (d : Act) {f g : Int} (h0 : 0 ≤ f) (h1 : f ≤ g) : addF (stF d f) ⟨f, g, [], d⟩ = stF d (g + 1) := by
  unfold stF
  rw [if_neg (c := g + 1 = 0) (by omega)]
  have e : g + 1 - 1 = g := by omega
  rw [e]
  by_cases h : f = 0
  · rw [if_pos h]; subst h; rfl
  · rw [if_neg h]
    simp only [addF]
    rw [if_pos (likeD _ _ _ _ _)]
theorem ofF_pre (d : Act) : ∀ (pre : List Int) (r : List Chn) (f : Int), 0 ≤ f → (∀ n ∈ pre, f ≤ n) → pre.Pairwise (· < ·) → ∃ f', f ≤ f' ∧ (f' = f ∨ f' - 1 ∈ pre) ∧ ofF d (pre.map (oneC d) ++ r) f (stF d f) = ofF d r f' (stF d f')
  | [], r, f, _, _, _ => ⟨f, by omega, .inl rfl, rfl⟩
  | n :: pre, r, f, h0, hf, hp => by
    rw [List.pairwise_cons] at hp
    have hn := hf n (by simp)
    obtain ⟨f', h1, h2, h3⟩ := ofF_pre d pre r (n + 1) (by omega) (fun m hm => by have := hp.1 m hm; omega) hp.2
    refine ⟨f', by omega, .inr ?_, ?_⟩
    · rcases h2 with rfl | h2
      · simp
      · simp [h2]
    · rw [← h3]
      show ofF d (oneC d n :: (pre.map (oneC d) ++ r)) f (stF d f) = _
      rw [ofF]
      have e1 : (oneC d n).nr = n := rfl
      rw [e1, if_neg (by omega), oneC_led]
      by_cases hlt : f < n
      · rw [if_pos hlt, stF_add d h0 (by omega)]
        have e : n - 1 + 1 = n := by omega
        rw [e, stF_add d (by omega) (by omega)]
      · rw [if_neg hlt]
        have : f = n := by omega
        subst this
        rw [stF_add d h0 (by omega)]
theorem ofF_one (d : Act) (l : List Int) (h0 : ∀ n ∈ l, 0 ≤ n ∧ n < 4294967296) (hp : l.Pairwise (· < ·)) : ofF d (l.map (oneC d)) 0 [] = [⟨0, 4294967295, [], d⟩] := by
  obtain ⟨f', h1, h2, h3⟩ := ofF_pre d l [] 0 (by omega) (fun n hn => (h0 n hn).1) hp
  have e0 : stF d 0 = [] := rfl
  rw [List.append_nil, e0] at h3
  rw [h3, ofF]
  have hle : f' ≤ 4294967296 := by
    rcases h2 with rfl | h2
    · omega
    · have := (h0 _ h2).2; omega
  by_cases hf : f' ≤ 4294967295
  · rw [if_pos hf, stF_add d h1 hf]; rfl
  · rw [if_neg hf]
    have : f' = 4294967296 := by omega
    subst this; rfl
/-- behind one that differs -/
theorem addF_snoc (l : List Span) (y x : Span) (h : y.like x = false) : addF (l ++ [y]) x = l ++ [y] ++ [x] := by rw [addF_last, h]; simp
theorem addF_ext (l : List Span) (y x : Span) (h : y.like x = true) : addF (l ++ [y]) x = l ++ [⟨y.lo, x.hi, y.steps, y.act⟩] := by rw [addF_last, h]; simp
theorem ofF_post (d : Act) (ys : List Span) : ∀ (post : List Int) (f g : Int), 0 ≤ f → f < g → g ≤ 4294967296 → (∀ n ∈ post, g ≤ n ∧ n < 4294967296) → post.Pairwise (· < ·) →
    ofF d (post.map (oneC d)) g (ys ++ [⟨f, g - 1, [], d⟩]) = ys ++ [⟨f, 4294967295, [], d⟩]
  | [], f, g, h0, h1, h2, _, _ => by
    rw [List.map_nil, ofF]
    by_cases hg : g ≤ 4294967295
    · rw [if_pos hg, extD]
    · rw [if_neg hg]
      have : g = 4294967296 := by omega
      subst this; rfl
  | n :: post, f, g, h0, h1, h2, hn, hp => by
    rw [List.pairwise_cons] at hp
    have hg := hn n (by simp)
    have ih := ofF_post d ys post f (n + 1) h0 (by omega) (by omega) (fun m hm => ⟨by have := hp.1 m hm; omega, (hn m (by simp [hm])).2⟩) hp.2
    rw [← ih]
    show ofF d (oneC d n :: post.map (oneC d)) g _ = _
    rw [ofF]
    have e1 : (oneC d n).nr = n := rfl
    rw [e1, if_neg (by omega), oneC_led]
    have e2 : n + 1 - 1 = n := by omega
    rw [e2]
    by_cases hlt : g < n
    · rw [if_pos hlt, extD, extD]
    · rw [if_neg hlt, extD]
def tailF (d : Act) (n : Int) : List Span := if n = 4294967295 then [] else [⟨n + 1, 4294967295, [], d⟩]
theorem ofF_cut (d o : Act) (hdo : d ≠ o) (pre post : List Int) (n : Int) (h0 : ∀ m ∈ pre ++ n :: post, 0 ≤ m ∧ m < 4294967296) (hp : (pre ++ n :: post).Pairwise (· < ·)) :
    ofF d (pre.map (oneC d) ++ oneC o n :: post.map (oneC d)) 0 [] = stF d n ++ ⟨n, n, [], o⟩ :: tailF d n := by
  rw [List.pairwise_append, List.pairwise_cons] at hp
  obtain ⟨hp1, ⟨hp2, hp3⟩, hp4⟩ := hp
  have hn := h0 n (by simp)
  obtain ⟨f', h1, h2, h3⟩ := ofF_pre d pre (oneC o n :: post.map (oneC d)) 0 (by omega) (fun n hn => (h0 n (by simp [hn])).1) hp1
  have e0 : stF d 0 = [] := rfl
  rw [e0] at h3
  have hfn : f' ≤ n := by
    rcases h2 with rfl | h2
    · omega
    · have := hp4 _ h2 n (by simp); omega
  rw [h3, ofF]
  have e1 : (oneC o n).nr = n := rfl
  rw [e1, if_neg (by omega), oneC_led]
  have e4 : (if f' < n then addF (stF d f') ⟨f', n - 1, [], d⟩ else stF d f') = stF d n := by
    by_cases hlt : f' < n
    · rw [if_pos hlt, stF_add d h1 (by omega)]
      have e : n - 1 + 1 = n := by omega
      rw [e]
    · rw [if_neg hlt]
      have : f' = n := by omega
      subst this; rfl
  rw [e4]
  have e5 : addF (stF d n) ⟨n, n, [], o⟩ = stF d n ++ [⟨n, n, [], o⟩] := by
    unfold stF
    split
    · rfl
    · exact addF_snoc [] _ _ (like_diff _ _ hdo)
  rw [e5]
  have hpost : ∀ m ∈ post, n + 1 ≤ m ∧ m < 4294967296 := fun m hm => ⟨by have := hp2 m hm; omega, (h0 m (by simp [hm])).2⟩
  unfold tailF
  by_cases hmax : n = 4294967295
  · rw [if_pos hmax]
    have : post = [] := by
      rcases post with _ | ⟨m, r⟩
      · rfl
      · have := hpost m (by simp); omega
    subst this
    rw [List.map_nil, ofF, if_neg (by omega)]
  · rw [if_neg hmax]
    rcases post with _ | ⟨m, r⟩
    · rw [List.map_nil, ofF, if_pos (by omega), addF_snoc _ _ _ (like_diff _ _ (fun h => hdo h.symm))]; simp
    · have hm := hpost m (by simp)
      rw [List.pairwise_cons] at hp3
      have hr : ∀ q ∈ r, m + 1 ≤ q ∧ q < 4294967296 := fun q hq => ⟨by have := hp3.1 q hq; omega, (hpost q (by simp [hq])).2⟩
      show ofF d (oneC d m :: r.map (oneC d)) (n + 1) _ = _
      rw [ofF]
      have e6 : (oneC d m).nr = m := rfl
      rw [e6, if_neg (by omega), oneC_led]
      have e7 : addF (if n + 1 < m then addF (stF d n ++ [⟨n, n, [], o⟩]) ⟨n + 1, m - 1, [], d⟩ else stF d n ++ [⟨n, n, [], o⟩]) ⟨m, m, [], d⟩ = (stF d n ++ [⟨n, n, [], o⟩]) ++ [⟨n + 1, m, [], d⟩] := by
        by_cases hlt : n + 1 < m
        · rw [if_pos hlt, addF_snoc _ _ _ (like_diff _ _ (fun h => hdo h.symm)), extD]
        · rw [if_neg hlt]
          have : m = n + 1 := by omega
          subst this
          rw [addF_snoc _ _ _ (like_diff _ _ (fun h => hdo h.symm))]
      rw [e7]
      have := ofF_post d (stF d n ++ [⟨n, n, [], o⟩]) r (n + 1) (m + 1) (by omega) (by omega) (by omega) hr hp3.2
      have e8 : m + 1 - 1 = m := by omega
      rw [e8] at this
      rw [this]; simp
end Go.Proofs.Ytceccgnpkelpkaa
