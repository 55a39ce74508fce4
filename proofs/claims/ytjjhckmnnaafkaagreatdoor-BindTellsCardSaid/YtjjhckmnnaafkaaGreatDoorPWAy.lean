/- A part of a proof: functions of the program walked over the abstract machine, and what they compute. -/
import Derived.Test.YtjjhckmnnaafkaaGreatDoorPWAw
import Derived.Test.YtjjhckmnnaafkaaGreatDoorPWAx
set_option linter.unusedVariables false
set_option linter.unusedSimpArgs false
namespace Go.Proofs.YtjjhckmnnaafkaaGreatDoor
open Go Go.Am Go.Proofs
attribute [local irreducible] W WL DL WO RoundEnd
set_option maxRecDepth 10000
set_option maxHeartbeats 4000000
theorem nt {b : Bool} (h : (!b) = true) : b = false := by simpa using h
theorem nf {b : Bool} (h : (!b) = false) : b = true := by simpa using h
def Atm.eqb (a b : Atm) : Bool := a.arg == b.arg && (a.op == b.op && (a.mask == b.mask && (a.val == b.val && true)))
mutual
def Cd.eqb : Cd → Cd → Bool
  | .mk k a l, .mk k' a' l' => k == k' && (a.eqb a' && Cd.eqbs l l')
def Cd.eqbs : List Cd → List Cd → Bool
  | [], [] => true
  | x :: l, y :: m => Cd.eqb x y && Cd.eqbs l m
  | [], _ :: _ => false
  | _ :: _, [] => false
end
mutual
def Cd.size : Cd → Nat
  | .mk _ _ l => Cd.sizes l + 1
def Cd.sizes : List Cd → Nat
  | [] => 0
  | x :: l => Cd.size x + Cd.sizes l
end
mutual
def Cd.ok : Cd → Prop
  | .mk _ _ l => l.length ≤ 2000000000000 ∧ Cd.oks l
def Cd.oks : List Cd → Prop
  | [] => True
  | x :: l => Cd.ok x ∧ Cd.oks l
end
theorem Cd.oks_mem : ∀ {l : List Cd} {x : Cd}, Cd.oks l → x ∈ l → x.ok
  | [], _, _, h => by simp at h
  | y :: l, x, h, hm => by
    rcases List.mem_cons.1 hm with rfl | hm
    · exact h.1
    · exact Cd.oks_mem h.2 hm
theorem Cd.size_mem : ∀ {l : List Cd} {x : Cd}, x ∈ l → x.size ≤ Cd.sizes l
  | [], _, h => by simp at h
  | y :: l, x, hm => by
    rw [Cd.sizes]
    rcases List.mem_cons.1 hm with rfl | hm
    · omega
    · have := Cd.size_mem hm; omega
theorem Cd.eqbs_len : ∀ {l m : List Cd}, l.length ≠ m.length → Cd.eqbs l m = false
  | [], [], h => absurd rfl h
  | [], _ :: _, _ => rfl
  | _ :: _, [], _ => rfl
  | x :: l, y :: m, h => by simp only [Cd.eqbs]; rw [Cd.eqbs_len (by simpa using h)]; simp
mutual
theorem Cd.eqb_refl : ∀ c : Cd, c.eqb c = true
  | .mk k a l => by simp [Cd.eqb, Atm.eqb, Cd.eqbs_refl l]
theorem Cd.eqbs_refl : ∀ l : List Cd, Cd.eqbs l l = true
  | [] => rfl
  | x :: l => by simp [Cd.eqbs, Cd.eqb_refl x, Cd.eqbs_refl l]
end
theorem sameCd : ∀ (n : Nat) (a b : Cd), a.size < n → a.ok → Comp Tryz.prog 22 [.agg (a.row.map .d), .agg (b.row.map .d)] (bool (a.eqb b)) := by
  intro n
  induction n with
  | zero => intro a b h; omega
  | succ n IH =>
  intro a b hn hok
  obtain ⟨k, ⟨a1, a2, a3, a4⟩, l⟩ := a
  obtain ⟨k', ⟨b1, b2, b3, b4⟩, m⟩ := b
  have el : Cd.rows l = l.map Cd.row := Cd.rows_eq l
  have em : Cd.rows m = m.map Cd.row := Cd.rows_eq m
  simp only [Cd.row, el, em, List.map_cons, List.map_nil]
  refine Spec.body (C := cx [] 46) fits (fn := Tryz.f22) Tryz.func22 rfl (by decide) (by decide) (gI ?_)
  refine ST wz ?_ <;> (repeat' (first | exact Wl.mk | refine wy1 ?_ ?_)) <;> repeat (intro hb; have hx := wy5 hb; clear hx)
  · exact ⟨by simp only [Bool.not_eq_true'] at hb; rw [Cd.eqb, hb]; rfl, rfl⟩
  · rename_i h1
    exact ⟨by simp only [Bool.not_eq_true', Bool.not_eq_false'] at *; rw [Cd.eqb, h1, show Atm.eqb ⟨a1, a2, a3, a4⟩ ⟨b1, b2, b3, b4⟩ = false from hb]; rfl, rfl⟩
  · refine ⟨?_, rfl⟩
    have hne : l.length ≠ m.length := by simp at hb; omega
    rw [Cd.eqb, Cd.eqbs_len hne]; simp; rfl
  rename_i h1 h2
  simp only [Bool.not_eq_false'] at h1 h2
  have hlm : l.length = m.length := by simp at hb; omega
  have hres : (Cd.mk k ⟨a1, a2, a3, a4⟩ l).eqb (Cd.mk k' ⟨b1, b2, b3, b4⟩ m) = Cd.eqbs l m := by rw [Cd.eqb, h1, show Atm.eqb ⟨a1, a2, a3, a4⟩ ⟨b1, b2, b3, b4⟩ = true from h2]; rfl
  rw [hres]
  have hll : l.length < 2 ^ 43 := by have := hok.1; omega
  refine wLoop [2, 3, 5] 2 (l.length + 1) ?_
  refine (fun key => key l m [] [] _ rfl rfl rfl rfl (by omega) rfl : (∀ (r1 r2 d1 d2 : List Cd) (j : Int), l = d1 ++ r1 → m = d2 ++ r2 → j = d1.length → j = d2.length → r1.length = r2.length → Cd.eqbs l m = Cd.eqbs r1 r2 →
    WR2 _ _ _ _ _ (r1.length + 1) [(2, .one (.ptr 0 0)), (3, .one (.ptr 1 0)), (5, int .i64 j)] [.var [.d (.sc (.int .i64 k)), .d (.sc (.int .i64 a1)), .d (.sc (.int .i64 a2)), .d (.sc (.int .u64 a3)), .d (.sc (.int .u64 a4)), .d (.list (l.map Cd.row))],
      .var [.d (.sc (.int .i64 k')), .d (.sc (.int .i64 b1)), .d (.sc (.int .i64 b2)), .d (.sc (.int .u64 b3)), .d (.sc (.int .u64 b4)), .d (.list (m.map Cd.row))]]) → _) ?_
  intro r1
  induction r1 with
  | nil =>
    intro r2 d1 d2 j g1 g2 hj hj2 hr hs
    have hlen : l.length = d1.length := by subst g1; simp
    have : r2 = [] := List.length_eq_zero_iff.1 (by simpa using hr.symm)
    subst this
    refine wR (gI ?_)
    refine ST wz ?_ <;> (repeat' (first | exact Wl.mk | refine wy1 ?_ ?_)) <;> repeat (intro hb; have hx := wy5 hb; clear hx)
    exact ⟨by rw [hs]; rfl, rfl⟩
  | cons x r1 ih =>
    intro r2 d1 d2 j g1 g2 hj hj2 hr hs
    rcases r2 with _ | ⟨y, r2⟩
    · simp at hr
    have hlen : l.length = d1.length + (r1.length + 1) := by subst g1; simp
    have hxm : x ∈ l := by subst g1; simp
    have hsz := Cd.size_mem hxm
    have hc := IH x y (by rw [Cd.size] at hn; omega) (Cd.oks_mem hok.2 hxm)
    obtain ⟨xk, ⟨x1, x2, x3, x4⟩, xl⟩ := x
    obtain ⟨yk, ⟨y1, y2, y3, y4⟩, yl⟩ := y
    refine wR (gI ?_)
    refine SBD wz (wc hc wz) ?_ <;> (repeat' (first | exact Wl.mk | refine wy1 ?_ ?_)) <;> repeat (intro hb; have hx := wy5 hb; clear hx)
    · refine rE (ih r2 (d1 ++ [Cd.mk xk ⟨x1, x2, x3, x4⟩ xl]) (d2 ++ [Cd.mk yk ⟨y1, y2, y3, y4⟩ yl]) _ ?_ ?_ ?_ ?_ ?_ ?_)
      · simp [g1]
      · simp [g2]
      · rw [wrap_ok (by omega) (by omega)]; simp [hj]
      · rw [wrap_ok (by omega) (by omega)]; simp [hj2]
      · simpa using hr
      · rw [hs, Cd.eqbs, ‹(Cd.mk xk ⟨x1, x2, x3, x4⟩ xl).eqb (Cd.mk yk ⟨y1, y2, y3, y4⟩ yl) = true›]; rfl
    · refine ⟨?_, rfl⟩
      rw [hs, Cd.eqbs, ‹(Cd.mk xk ⟨x1, x2, x3, x4⟩ xl).eqb (Cd.mk yk ⟨y1, y2, y3, y4⟩ yl) = false›]; rfl
def Bd.eqb (a b : Bd) : Bool := a.nr == b.nr && ((a.act.kind == b.act.kind && (a.act.data == b.act.data && true)) && a.cond.eqb b.cond)
theorem sameBds (a b : List Bd) (hla : a.length < 2 ^ 60) (hok : ∀ x ∈ a, x.cond.ok) : Comp Tryz.prog 8 [lst Bd.row a, lst Bd.row b] (bool (pw Bd.eqb a b)) := by
  refine Spec.body (C := cx [] 55) fits (fn := Tryz.f8) Tryz.func8 rfl (by decide) (by decide) (gI ?_)
  refine ST wz ?_ <;> (repeat' (first | exact Wl.mk | refine wy1 ?_ ?_)) <;> repeat (intro hb; have hx := wy5 hb; clear hx)
  · refine ⟨?_, rfl⟩
    simp at hb
    rw [pw_len (by omega)]; rfl
  simp at hb
  refine wLoop [0, 1, 5] 0 (a.length + 1) ?_
  refine (fun key => key a b [] [] _ rfl rfl rfl rfl (by omega) rfl : (∀ (r1 r2 d1 d2 : List Bd) (j : Int), a = d1 ++ r1 → b = d2 ++ r2 → j = d1.length → j = d2.length → r1.length = r2.length → pw Bd.eqb a b = pw Bd.eqb r1 r2 →
    WR2 _ _ _ _ _ (r1.length + 1) [(0, lst Bd.row a), (1, lst Bd.row b), (5, int .i64 j)] []) → _) ?_
  intro r1
  induction r1 with
  | nil =>
    intro r2 d1 d2 j h1 h2 hj hj2 hr hs
    have hlen : a.length = d1.length := by subst h1; simp
    have : r2 = [] := List.length_eq_zero_iff.1 (by simpa using hr.symm)
    subst this
    refine wR (gI ?_)
    refine ST wz ?_ <;> (repeat' (first | exact Wl.mk | refine wy1 ?_ ?_)) <;> repeat (intro hb; have hx := wy5 hb; clear hx)
    exact ⟨by rw [hs]; rfl, rfl⟩
  | cons x r1 ih =>
    intro r2 d1 d2 j h1 h2 hj hj2 hr hs
    rcases r2 with _ | ⟨y, r2⟩
    · simp at hr
    have hlen : a.length = d1.length + (r1.length + 1) := by subst h1; simp
    have hc := sameCd _ x.cond y.cond (Nat.lt_succ_self _) (hok x (by rw [h1]; simp))
    have hs2 : pw Bd.eqb a b = ((x.nr == y.nr && ((x.act.kind == y.act.kind && (x.act.data == y.act.data && true)) && x.cond.eqb y.cond)) && pw Bd.eqb r1 r2) := by rw [hs, pw]; rfl
    have g1 := at_mid (f := Bd.row) h1 hj
    have g2 := at_mid (f := Bd.row) h2 hj2
    have gn := ih r2 (d1 ++ [x]) (d2 ++ [y]) (IntKind.wrap .i64 (j + 1)) (by simp [h1]) (by simp [h2]) (by rw [wrap_ok (by omega) (by omega)]; simp [hj]) (by rw [wrap_ok (by omega) (by omega)]; simp [hj2]) (by simpa using hr)
    obtain ⟨xr, ⟨xk, xd⟩, ⟨ck, ⟨c1, c2, c3, c4⟩, cl⟩⟩ := x
    obtain ⟨yr, ⟨yk, yd⟩, ⟨ek, ⟨e1, e2, e3, e4⟩, el⟩⟩ := y
    simp only at hc hs2
    refine wR (gI ?_)
    refine SBD wz (wc hc wz) ?_ <;> (repeat' (first | exact Wl.mk | refine wy1 ?_ ?_)) <;> repeat (intro hb; have hx := wy5 hb; clear hx)
    · have h3 : (xr == yr) = false := nt hb
      exact ⟨by rw [hs2, h3]; rfl, rfl⟩
    · have h3 : (xk == yk && (xd == yd && true)) = false := nt hb
      exact ⟨by rw [hs2, h3, Bool.false_and, Bool.and_false, Bool.false_and]; rfl, rfl⟩
    · have k1 : (xr == yr) = true := nf ‹(!(xr == yr)) = false›
      have k2 : (xk == yk && (xd == yd && true)) = true := nf ‹(!(xk == yk && (xd == yd && true))) = false›
      rw [k1, k2, ‹(Cd.mk ck ⟨c1, c2, c3, c4⟩ cl).eqb (Cd.mk ek ⟨e1, e2, e3, e4⟩ el) = true›] at hs2
      exact rE (gn (by rw [hs2]; rfl))
    · exact ⟨by rw [hs2, ‹(Cd.mk ck ⟨c1, c2, c3, c4⟩ cl).eqb (Cd.mk ek ⟨e1, e2, e3, e4⟩ el) = false›, Bool.and_false, Bool.and_false, Bool.false_and]; rfl, rfl⟩
theorem Bd.eqb_refl (x : Bd) : x.eqb x = true := by simp [Bd.eqb, Cd.eqb_refl]
/-! what is right can be bound -/
theorem comp_out {k : Ex} (h : comparedF k = true) : k.kind = 6 → ∃ o n u x, k = .mk 6 o n u [x] := by
  intro h6
  have hin := whatF_in k
  obtain ⟨kd, o, n, u, l⟩ := k
  have h6 : kd = 6 := h6
  subst h6
  unfold comparedF at h
  cases hw : whatF (.mk 6 o n u l) with
  | msk x => rw [hw] at hin; exact ⟨o, n, u, x, by rw [show l = [x] from hin.2]⟩
  | nam => rw [hw] at hin; have h5 : (6 : Int) = 5 := hin; omega
  | none => rw [hw] at h; simp at h
  | num => rw [hw] at h; simp at h
  | pr a b => rw [hw] at h; simp at h
  | sg a => rw [hw] at h; simp at h
theorem cond_of_bool : ∀ (n : Nat) (e : Ex), e.size < n → boolF n e = true → condOk e
  | 0, e, h, _ => by omega
  | n + 1, .mk k o nm u l, hs, hb => by
    rw [boolF] at hb
    have hin := whatF_in (.mk k o nm u l)
    cases hw : whatF (.mk k o nm u l) with
    | pr a b =>
      rw [hw] at hb hin
      have hl : l = [a, b] := hin.2
      subst hl
      simp only [Ex.size, Ex.sizes] at hs
      simp only at hb
      split at hb
      · rename_i h12
        have h12 : k = 1 ∨ k = 2 := h12
        rw [Bool.and_eq_true] at hb
        have ga := cond_of_bool n a (by omega) hb.1
        have gb := cond_of_bool n b (by omega) hb.2
        exact ⟨fun h4 => by omega, .inr ⟨by omega, ga, gb, trivial⟩⟩
      · split at hb
        · rename_i h4
          have h4 : k = 4 := h4
          subst h4
          simp only [Bool.and_eq_true] at hb
          exact ⟨fun _ => ⟨o, nm, u, a, b, rfl, comp_out hb.2.1⟩, .inl rfl⟩
        · cases hb
    | sg a =>
      rw [hw] at hb hin
      have hl : l = [a] := hin.2
      have h3 : k = 3 := hin.1
      subst hl
      subst h3
      simp only [Ex.size, Ex.sizes] at hs
      simp only at hb
      have ga := cond_of_bool n a (by omega) hb
      exact ⟨fun h4 => by omega, .inr ⟨by omega, ga, trivial⟩⟩
    | none => rw [hw] at hb; cases hb
    | num => rw [hw] at hb; cases hb
    | nam => rw [hw] at hb; cases hb
    | msk x => rw [hw] at hb; cases hb
mutual
theorem cnd_ok (ds : List Def) (ps : List ByteArray) : ∀ e : Ex, e.ok → (cndF ds ps e).1.ok
  | .mk k o n u l, h => by
    rw [cndF]
    split
    · unfold atomF
      split
      · exact ⟨by simp, trivial⟩
      · split
        · split
          · exact ⟨by simp, trivial⟩
          · exact ⟨by simp, trivial⟩
        · exact ⟨by simp, trivial⟩
    · split
      · have h1 := cnds_ok ds ps l [] h.2 trivial
        have h2 := cnds_len ds ps l []
        have h3 := h.1
        simp only [List.length_nil] at h2
        exact ⟨by omega, h1⟩
      · exact ⟨by simp, trivial⟩
theorem cnds_ok (ds : List Def) (ps : List ByteArray) : ∀ (l : List Ex) (out : List Cd), Ex.oks l → Cd.oks out → Cd.oks (cndsF ds ps l out).1
  | [], out, _, ho => by rw [cndsF]; exact ho
  | x :: r, out, h, ho => by
    rw [cndsF]
    split
    · exact cnds_ok ds ps r _ h.2 (oksApp out _ ho (cnd_ok ds ps x h.1))
    · trivial
theorem cnds_len (ds : List Def) (ps : List ByteArray) : ∀ (l : List Ex) (out : List Cd), (cndsF ds ps l out).1.length ≤ l.length + out.length
  | [], out => by rw [cndsF]; simp
  | x :: r, out => by
    rw [cndsF]
    split
    · have := cnds_len ds ps r (out ++ [(cndF ds ps x).1])
      simp only [List.length_append, List.length_cons, List.length_nil] at this ⊢; omega
    · simp
theorem oksApp : ∀ (out : List Cd) (c : Cd), Cd.oks out → c.ok → Cd.oks (out ++ [c])
  | [], c, _, hc => ⟨hc, trivial⟩
  | x :: out, c, h, hc => ⟨h.1, oksApp out c h.2 hc⟩
end
end Go.Proofs.YtjjhckmnnaafkaaGreatDoor
namespace Go.Proofs.YtjjhckmnnaafkaaGreatDoor
open Go Go.Am Go.Proofs
attribute [local irreducible] W WL DL WO RoundEnd
set_option maxRecDepth 10000
set_option maxHeartbeats 4000000
/-- the calls of an architecture, and its number -/
def callsOf (a : ByteArray) : Option (List Cal) := if a = arch0 then some calL0 else if a = arch1 then some calL1 else if a = arch2 then some calL2 else none
def archN (a : ByteArray) : Int := if a = arch0 then 3221225655 else if a = arch1 then 1073741827 else if a = arch2 then 3221225534 else 0
theorem calls_small (a : ByteArray) (l : List Cal) (h : callsOf a = some l) : l.length < 2 ^ 40 ∧ ∀ x ∈ l, x.ps.length ≤ 100 := by
  have h0 : calL0.length < 2 ^ 40 ∧ (calL0.all fun x => decide (x.ps.length ≤ 100)) = true := by decide
  have h1 : calL1.length < 2 ^ 40 ∧ (calL1.all fun x => decide (x.ps.length ≤ 100)) = true := by decide
  have h2 : calL2.length < 2 ^ 40 ∧ (calL2.all fun x => decide (x.ps.length ≤ 100)) = true := by decide
  unfold callsOf at h
  split at h
  · injection h with h; subst h
    exact ⟨h0.1, fun x hx => by simpa using List.all_eq_true.1 h0.2 x hx⟩
  · split at h
    · injection h with h; subst h
      exact ⟨h1.1, fun x hx => by simpa using List.all_eq_true.1 h1.2 x hx⟩
    · split at h
      · injection h with h; subst h
        exact ⟨h2.1, fun x hx => by simpa using List.all_eq_true.1 h2.2 x hx⟩
      · cases h
theorem archB (a : ByteArray) : Comp Tryz.prog 12 [str a] (t2 (archN a) (callsOf a).isSome) ∧ ∀ l, callsOf a = some l → ∀ c, Comp Tryz.prog 39 [str a, str c] (foundV Cal.row1 (l.find? fun x => x.name == c)) := by
  have hs := calls_small a
  unfold callsOf archN at *
  split
  · rename_i h; subst h
    exact ⟨nu0, fun l hl c => by rw [if_pos rfl] at hs; have := (hs l hl).1; injection hl with hl; subst hl; exact findR _ c _ this all0⟩
  · rename_i h0
    rw [if_neg h0] at hs
    split
    · rename_i h; subst h
      exact ⟨nu1, fun l hl c => by rw [if_pos rfl] at hs; have := (hs l hl).1; injection hl with hl; subst hl; exact findR _ c _ this all1⟩
    · rename_i h1
      rw [if_neg h1] at hs
      split
      · rename_i h; subst h
        exact ⟨nu2, fun l hl c => by rw [if_pos rfl] at hs; have := (hs l hl).1; injection hl with hl; subst hl; exact findR _ c _ this all2⟩
      · rename_i h2
        exact ⟨nuNo a (by rw [ba_beq]; simpa [arch0] using h0) (by rw [ba_beq]; simpa [arch1] using h1) (by rw [ba_beq]; simpa [arch2] using h2), fun l hl => by cases hl⟩
theorem archC (a : ByteArray) : ∀ l, callsOf a = some l → ∀ c, Comp Tryz.prog 49 [str a, str c] (foundV Cal.row1 (l.find? fun x => x.name == c)) := by
  have hs := calls_small a
  unfold callsOf at *
  split
  · rename_i h; subst h
    exact fun l hl c => by rw [if_pos rfl] at hs; have := (hs l hl).1; injection hl with hl; subst hl; exact findCallR _ c _ this cls0
  · rename_i h0
    rw [if_neg h0] at hs
    split
    · rename_i h; subst h
      exact fun l hl c => by rw [if_pos rfl] at hs; have := (hs l hl).1; injection hl with hl; subst hl; exact findCallR _ c _ this cls1
    · rename_i h1
      rw [if_neg h1] at hs
      split
      · rename_i h; subst h
        exact fun l hl c => by rw [if_pos rfl] at hs; have := (hs l hl).1; injection hl with hl; subst hl; exact findCallR _ c _ this cls2
      · exact fun l hl => by cases hl
theorem archD (a : ByteArray) : Comp Tryz.prog 17 [str a] (t2 (archN a) (callsOf a).isSome) := by
  unfold callsOf archN
  split
  · rename_i h; subst h
    exact ar0
  · rename_i h0
    split
    · rename_i h; subst h
      exact ar1
    · rename_i h1
      split
      · rename_i h; subst h
        exact ar2
      · rename_i h2
        exact arNo a (by rw [ba_beq]; simpa [arch0] using h0) (by rw [ba_beq]; simpa [arch1] using h1) (by rw [ba_beq]; simpa [arch2] using h2)
/-- a part that may be bound -/
def Part.fine (p : Part) : Prop := p.rules.length ≤ 12 ∧ ∀ r ∈ p.rules, r.params.length ≤ 10 ∧ r.cond.length ≤ 1 ∧ condsFine r.cond
/-- a unit that is small -/
structure Un.fit (u : Un) : Prop where
  good : u.good
  defs : u.defs.length ≤ 12
  nok : ∀ d ∈ u.defs, d.expr.nok
  pols : u.pols.length ≤ 100
  main : u.main.length ≤ 100
  parts : ∀ p ∈ u.pols, p.parts.length * 56 ≤ 2 ^ 47
  ok : ∀ p ∈ u.pols, ∀ x ∈ p.parts, x.ok
  fine : rightF u = true → ∀ p ∈ u.pols, ∀ x ∈ p.parts, x.fine
theorem few_fit {u : Un} (h : fewUnit u = true) : u.fit := by
  have ho := fewUnit_out h
  simp only [fewUnit, Bool.and_eq_true, decide_eq_true_eq, List.all_eq_true] at h
  obtain ⟨h1, h2, h3, h4, h5, h6, _⟩ := h
  have hd : ∀ d ∈ u.defs, few d.expr = true := fun d hd => by
    have := h4 d hd
    simp only [fewDef, Bool.and_eq_true] at this
    exact this.1
  refine ⟨ho.1, h1, fun d hdm => (few_size (hd d hdm)).2, by omega, by omega, fun p hp => ?_, fun p hp x hx => ?_, fun hr p hp x hx => ?_⟩
  · have := h6 p hp
    simp only [fewPol, Bool.and_eq_true, decide_eq_true_eq] at this
    omega
  · have := h6 p hp
    simp only [fewPol, Bool.and_eq_true, decide_eq_true_eq, List.all_eq_true] at this
    exact (fewPart_out (this.2.2 x hx)).2
  · have hf := h6 p hp
    simp only [fewPol, Bool.and_eq_true, decide_eq_true_eq, List.all_eq_true] at hf
    have hx2 := hf.2.2 x hx
    simp only [fewPart, Bool.and_eq_true, decide_eq_true_eq, List.all_eq_true] at hx2
    simp only [rightF, Bool.and_eq_true, List.all_eq_true] at hr
    have hp2 := hr.2.1 p hp
    simp only [polRF, Bool.and_eq_true, List.all_eq_true] at hp2
    have hpr := hp2.2 x hx
    refine ⟨hx2.2.1, fun r hrm => ?_⟩
    have hfr := hx2.2.2 r hrm
    simp only [fewRule, Bool.and_eq_true, decide_eq_true_eq, List.all_eq_true] at hfr
    rw [partRF] at hpr
    split at hpr
    · simp only [Bool.and_eq_true, List.all_eq_true] at hpr
      have hrr := hpr.2 r hrm
      simp only [ruleF, Bool.and_eq_true, decide_eq_true_eq, List.all_eq_true] at hrr
      refine ⟨hfr.2.1, hrr.2.2.1, fun e he => ?_⟩
      have hcf := hrr.2.2.2 e he
      simp only [condF, Bool.and_eq_true] at hcf
      have hfe := hfr.2.2.2.2 e he
      exact ⟨(few_size hfe).2, few_ok hfe, cond_of_bool _ e (Nat.lt_succ_self _) hcf.1⟩
    · simp only [Bool.and_eq_true, beq_iff_eq, List.length_map] at hpr
      have hl : x.rules.length = 0 := by have := hpr.2.2; omega
      rw [List.length_eq_zero_iff.1 hl] at hrm
      cases hrm
theorem flatF_all {P : Part → Prop} (hP : ∀ x, P x → P x.strip) (l : List Pol) (names : List ByteArray) (hr : ∀ p ∈ l, ∀ x ∈ p.parts, P x) : ∀ x ∈ (flatF l names).1, P x := by
  unfold flatF
  split
  · intro x hx; simp at hx
  · simp only
    have h := namesF_out (P := P) (polsM l) (by intro p hp; obtain ⟨q, hq, rfl⟩ := List.mem_map.1 hp; exact hr q hq) (l.length + 1) names startF ⟨by decide, by intro p hp; cases hp⟩ ⟨(by intro p hp; cases hp), (by intro p hp; cases hp)⟩
    split
    · rename_i hz
      have h := h hz
      intro x hx
      obtain ⟨y, hy, rfl⟩ := List.mem_map.1 hx
      exact hP _ (h.2.1 y hy)
    · intro x hx; simp at hx
def bdsV (q : List Bd × Int) : V := .tup [.one (.d (.list (q.1.map Bd.row))), .one (.d (.sc (.int .i64 q.2)))]
def ruleG (u : Un) (l : List Cal) (r : Rule) (act : Act) : Bd × Int := bruleF u.defs (calO (l.find? fun x => x.name == r.call)) r act
/-- all rules of a unit -/
def rulesF (u : Un) (L : Option (List Cal)) : List Bd × Int :=
  match L with
  | none => ([], 1)
  | some l => if rightF u = true then
      (if (tableF [] [] 0 u.defs).2 = 0 then
        (if (flatF u.pols u.main).2 = 0 then bpartsF (ruleG u l) (flatF u.pols u.main).1 [] else ([], (flatF u.pols u.main).2))
      else ([], (tableF [] [] 0 u.defs).2))
    else ([], 1)
theorem rulesB (u : Un) (a : ByteArray) (hu : u.fit) : Comp Tryz.prog 6 [.agg u.cells, str a] (bdsV (rulesF u (callsOf a))) := by
  obtain ⟨c1, c2⟩ := archB a
  have hsm := calls_small a
  have c3 := rightR u hu.good
  have c4 := tableR u.defs (by have := hu.defs; omega) hu.nok
  have c5 := flatR u.pols u.main hu.pols hu.main hu.parts hu.ok
  have hfl := (flatF_out u.pols u.main hu.ok).1
  have hff : rightF u = true → ∀ x ∈ (flatF u.pols u.main).1, x.fine := fun h => flatF_all (fun x hx => hx) u.pols u.main (hu.fine h)
  have hrb := fun (l : List Cal) (h : callsOf a = some l) (r : Rule) (act : Act) (k1 : r.params.length ≤ 10) (k2 : r.cond.length ≤ 1) (k3 : condsFine r.cond) =>
    ruleB u a r act (l.find? fun x => x.name == r.call) (c2 l h r.call) (fun x hx => (hsm l h).2 x (List.mem_of_find?_eq_some hx)) (by omega) k2 k3 (by have := hu.defs; omega) hu.nok
  change ∀ (l : List Cal) (h : callsOf a = some l) (r : Rule) (act : Act) (k1 : r.params.length ≤ 10) (k2 : r.cond.length ≤ 1) (k3 : condsFine r.cond), Comp Tryz.prog 16 [.agg u.cells, str a, .agg (r.row.map .d), .agg (act.row.map .d)] (bdV (ruleG u l r act)) at hrb
  clear hu c2 hsm
  unfold rulesF
  generalize callsOf a = L at *
  generalize archN a = n at *
  cases L with
  | none =>
    obtain ⟨ds, ps, ms, ⟨dk, dd⟩⟩ := u
    simp only at *
    refine Spec.body (C := cx [(13, false)] 85) fits (fn := Tryz.f6) Tryz.func6 rfl (by decide) (by decide) (gI ?_)
    refine ST (wc c1 wz) ?_ <;> (repeat' (first | exact Wl.mk | refine wy1 ?_ ?_)) <;> repeat (intro hb; have hx := wy5 hb; clear hx)
    exact ⟨rfl, rfl⟩
  | some l =>
    have hrb2 := hrb l rfl
    clear hrb
    simp only
    generalize ruleG u l = G at *
    cases hR : rightF u with
    | false =>
      rw [hR] at c3
      obtain ⟨ds, ps, ms, ⟨dk, dd⟩⟩ := u
      simp only at *
      refine Spec.body (C := cx [(13, false)] 85) fits (fn := Tryz.f6) Tryz.func6 rfl (by decide) (by decide) (gI ?_)
      refine ST (wc c1 (wc c3 wz)) ?_ <;> (repeat' (first | exact Wl.mk | refine wy1 ?_ ?_)) <;> repeat (intro hb; have hx := wy5 hb; clear hx)
      exact ⟨rfl, rfl⟩
    | true =>
      rw [hR] at c3
      have hff2 := hff hR
      clear hff
      rw [if_pos rfl]
      generalize tableF [] [] 0 u.defs = T at *
      generalize flatF u.pols u.main = F at *
      obtain ⟨⟨T1, T2⟩, T3⟩ := T
      obtain ⟨F1, F2⟩ := F
      obtain ⟨ds, ps, ms, ⟨dk, dd⟩⟩ := u
      unfold tabV at c4
      simp only at *
      generalize hfb : (if T3 = 0 then (if F2 = 0 then bpartsF G F1 [] else ([], F2)) else ([], T3)) = fb
      refine Spec.body (C := cx [(13, false)] 85) fits (fn := Tryz.f6) Tryz.func6 rfl (by decide) (by decide) (gI ?_)
      refine ST (wc c1 (wc c3 (wc c4 (wc c5 wz)))) ?_ <;> (repeat' (first | exact Wl.mk | refine wy1 ?_ ?_)) <;> repeat (intro hb; have hx := wy5 hb; clear hx)
      · exact ⟨by rw [← hfb, if_neg (bz1 hb)]; rfl, rfl⟩
      · exact ⟨by rw [← hfb, if_pos (bz0 ‹_›), if_neg (bz1 hb)]; rfl, rfl⟩
      rw [if_pos (bz0 ‹(!(T3 == 0)) = false›), if_pos (bz0 ‹(!(F2 == 0)) = false›)] at hfb
      refine wLoop [1, 2, 13, 53, 54, 55] 2 (F1.length + 1) ?_
      refine (fun key => key F1 [] _ [] rfl rfl hfb.symm (Nat.zero_le _) :
        (∀ (rest done : List Part) (j : Int) (out : List Bd), F1 = done ++ rest → j = done.length → fb = bpartsF G rest out → out.length ≤ 12 * done.length →
        WR2 _ _ _ _ _ (rest.length + 1) [(1, str a), (2, .one (.ptr 0 0)), (13, .one (.arr 1 0 (out.map Bd.row).length)), (53, lst Part.row F1), (54, int .i64 (F1.map Part.row).length), (55, int .i64 j)]
          [.var (Un.cells ⟨ds, ps, ms, ⟨dk, dd⟩⟩), .arr 0 false 9 (out.map Bd.row)]) → _) ?_
      intro rest
      induction rest with
      | nil =>
        intro done j out h1 hj hr ho
        have hlen : F1.length = done.length := by rw [h1]; simp
        refine wR (gI ?_)
        refine ST wz ?_ <;> (repeat' (first | exact Wl.mk | refine wy1 ?_ ?_)) <;> repeat (intro hb; have hx := wy5 hb; clear hx)
        exact ⟨by rw [hr]; rfl, rfl⟩
      | cons p rest ih =>
        intro done j out h1 hj hr ho
        have hlen : F1.length = done.length + (rest.length + 1) := by rw [h1]; simp
        have gp := at_mid (f := Part.row) h1 hj
        have hpf := hff2 p (by rw [h1]; simp)
        have gn := fun out' => ih (done ++ [p]) (IntKind.wrap .i64 (j + 1)) out' (by rw [h1]; simp) (by rw [wrap_ok (by omega) (by omega)]; simp [hj])
        rw [bpartsF] at hr
        obtain ⟨pu, ⟨pk, pd⟩, pr⟩ := p
        obtain ⟨hp1, hp2⟩ := hpf
        simp only at hp1 hp2 hr
        refine wR (gI ?_)
        refine ST wz ?_ <;> (repeat' (first | exact Wl.mk | refine wy1 ?_ ?_)) <;> repeat (intro hb; have hx := wy5 hb; clear hx)
        refine wLoop [1, 2, 13, 15, 53, 54, 55, 60, 61, 62] 3 (pr.length + 1) ?_
        refine (fun key => key pr [] _ out rfl rfl rfl (Nat.le_refl _) :
          (∀ (rest2 done2 : List Rule) (j2 : Int) (out2 : List Bd), pr = done2 ++ rest2 → j2 = done2.length → brulesF G ⟨pk, pd⟩ pr out = brulesF G ⟨pk, pd⟩ rest2 out2 → out2.length ≤ out.length + done2.length →
          WR2 _ _ _ _ _ (rest2.length + 1) [(1, str a), (2, .one (.ptr 0 0)), (13, .one (.arr 1 0 (out2.map Bd.row).length)), (15, .one (.ptr 2 0)), (53, lst Part.row F1), (54, int .i64 (F1.map Part.row).length), (55, int .i64 j), (60, lst Rule.row pr), (61, int .i64 (pr.map Rule.row).length), (62, int .i64 j2)]
            [.var (Un.cells ⟨ds, ps, ms, ⟨dk, dd⟩⟩), .arr 0 false 9 (out2.map Bd.row), .var [.d (.sc (.string pu)), .d (.sc (.int .i64 pk)), .d (.sc (.int .i64 pd)), .d (.list (pr.map Rule.row))]]) → _) ?_
        intro rest2
        induction rest2 with
        | nil =>
          intro done2 j2 out2 h2 hj2 hr2 ho2
          have hlen2 : pr.length = done2.length := by rw [h2]; simp
          rw [hr2, brulesF, if_pos rfl] at hr
          refine wR (gI ?_)
          refine ST wz ?_ <;> (repeat' (first | exact Wl.mk | refine wy1 ?_ ?_)) <;> repeat (intro hb; have hx := wy5 hb; clear hx)
          exact rE (gn out2 hr (by simp; omega))
        | cons x rest2 ih2 =>
          intro done2 j2 out2 h2 hj2 hr2 ho2
          have hlen2 : pr.length = done2.length + (rest2.length + 1) := by rw [h2]; simp
          have gx := at_mid (f := Rule.row) h2 hj2
          obtain ⟨x1, x2, x3⟩ := hp2 x (by rw [h2]; simp)
          have cx2 := hrb2 x ⟨pk, pd⟩ x1 x2 x3
          rw [brulesF] at hr2
          have gn2 := fun out' => ih2 (done2 ++ [x]) (IntKind.wrap .i64 (j2 + 1)) out' (by rw [h2]; simp) (by rw [wrap_ok (by omega) (by omega)]; simp [hj2])
          generalize G x ⟨pk, pd⟩ = q at cx2 hr2
          obtain ⟨xc, xp, xd⟩ := x
          obtain ⟨⟨qn, ⟨qk, qd⟩, ⟨q0, ⟨q1, q2, q3, q4⟩, q5⟩⟩, q6⟩ := q
          unfold bdV at cx2
          simp only at cx2 hr2
          refine wR (gI ?_)
          refine ST (wc cx2 wz) ?_ <;> (repeat' (first | exact Wl.mk | refine wy1 ?_ ?_)) <;> repeat (intro hb; have hx := wy5 hb; clear hx)
          · rw [if_neg (bz1 hb)] at hr2
            have h6 : ¬ (([] : List Bd), q6).2 = 0 := bz1 hb
            rw [hr2, if_neg h6] at hr
            exact ⟨by rw [hr]; rfl, rfl⟩
          · rw [if_pos (bz0 hb)] at hr2
            have g := gn2 _ hr2 (by simp; omega)
            rw [List.map_append] at g
            exact rE g
theorem rulesD (u : Un) (a : ByteArray) (hu : u.fit) : Comp Tryz.prog 7 [.agg u.cells, str a] (bdsV (rulesF u (callsOf a))) := by
  have c1 := archD a
  have c2 := archC a
  have hsm := calls_small a
  have c3 := rightD u hu.good
  have c4 := tableD u.defs (by have := hu.defs; omega) hu.nok
  have c5 := refFlatR u.pols u.main hu.pols hu.main hu.parts
  rw [← flat_same] at c5
  have hfl := (flatF_out u.pols u.main hu.ok).1
  have hff : rightF u = true → ∀ x ∈ (flatF u.pols u.main).1, x.fine := fun h => flatF_all (fun x hx => hx) u.pols u.main (hu.fine h)
  have hrb := fun (l : List Cal) (h : callsOf a = some l) (r : Rule) (act : Act) (k1 : r.params.length ≤ 10) (k2 : r.cond.length ≤ 1) (k3 : condsFine r.cond) =>
    ruleD u a r act (l.find? fun x => x.name == r.call) (c2 l h r.call) (fun x hx => (hsm l h).2 x (List.mem_of_find?_eq_some hx)) (by omega) k2 k3 (by have := hu.defs; omega) hu.nok
  change ∀ (l : List Cal) (h : callsOf a = some l) (r : Rule) (act : Act) (k1 : r.params.length ≤ 10) (k2 : r.cond.length ≤ 1) (k3 : condsFine r.cond), Comp Tryz.prog 21 [.agg u.cells, str a, .agg (act.row.map .d), .agg (r.row.map .d)] (bdV (ruleG u l r act)) at hrb
  clear hu c2 hsm
  unfold rulesF
  generalize callsOf a = L at *
  generalize archN a = n at *
  cases L with
  | none =>
    obtain ⟨ds, ps, ms, ⟨dk, dd⟩⟩ := u
    simp only at *
    refine Spec.body (C := cx [(12, false)] 93) fits (fn := Tryz.f7) Tryz.func7 rfl (by decide) (by decide) (gI ?_)
    refine ST (wc c1 wz) ?_ <;> (repeat' (first | exact Wl.mk | refine wy1 ?_ ?_)) <;> repeat (intro hb; have hx := wy5 hb; clear hx)
    exact ⟨rfl, rfl⟩
  | some l =>
    have hrb2 := hrb l rfl
    clear hrb
    simp only
    generalize ruleG u l = G at *
    cases hR : rightF u with
    | false =>
      rw [hR] at c3
      obtain ⟨ds, ps, ms, ⟨dk, dd⟩⟩ := u
      simp only at *
      refine Spec.body (C := cx [(12, false)] 93) fits (fn := Tryz.f7) Tryz.func7 rfl (by decide) (by decide) (gI ?_)
      refine ST (wc c1 (wc c3 wz)) ?_ <;> (repeat' (first | exact Wl.mk | refine wy1 ?_ ?_)) <;> repeat (intro hb; have hx := wy5 hb; clear hx)
      exact ⟨rfl, rfl⟩
    | true =>
      rw [hR] at c3
      have hff2 := hff hR
      clear hff
      rw [if_pos rfl]
      generalize tableF [] [] 0 u.defs = T at *
      generalize flatF u.pols u.main = F at *
      obtain ⟨⟨T1, T2⟩, T3⟩ := T
      obtain ⟨F1, F2⟩ := F
      obtain ⟨ds, ps, ms, ⟨dk, dd⟩⟩ := u
      unfold tabV at c4
      simp only at *
      generalize hfb : (if T3 = 0 then (if F2 = 0 then bpartsF G F1 [] else ([], F2)) else ([], T3)) = fb
      refine Spec.body (C := cx [(12, false)] 93) fits (fn := Tryz.f7) Tryz.func7 rfl (by decide) (by decide) (gI ?_)
      refine ST (wc c1 (wc c3 (wc c4 (wc c5 wz)))) ?_ <;> (repeat' (first | exact Wl.mk | refine wy1 ?_ ?_)) <;> repeat (intro hb; have hx := wy5 hb; clear hx)
      · exact ⟨by rw [← hfb, if_neg (bz1 hb)]; rfl, rfl⟩
      · exact ⟨by rw [← hfb, if_pos (bz0 ‹_›), if_neg (bz1 hb)]; rfl, rfl⟩
      rw [if_pos (bz0 ‹(!(T3 == 0)) = false›), if_pos (bz0 ‹(!(F2 == 0)) = false›)] at hfb
      refine wLoop [1, 2, 11, 12, 13] 2 (F1.length + 1) ?_
      refine (fun key => key F1 [] _ [] rfl rfl hfb.symm (Nat.zero_le _) :
        (∀ (rest done : List Part) (j : Int) (out : List Bd), F1 = done ++ rest → j = done.length → fb = bpartsF G rest out → out.length ≤ 12 * done.length →
        WR2 _ _ _ _ _ (rest.length + 1) [(1, str a), (2, .one (.ptr 0 0)), (11, lst Part.row F1), (12, .one (.arr 1 0 (out.map Bd.row).length)), (13, int .i64 j)]
          [.var (Un.cells ⟨ds, ps, ms, ⟨dk, dd⟩⟩), .arr 0 false 9 (out.map Bd.row)]) → _) ?_
      intro rest
      induction rest with
      | nil =>
        intro done j out h1 hj hr ho
        have hlen : F1.length = done.length := by rw [h1]; simp
        refine wR (gI ?_)
        refine ST wz ?_ <;> (repeat' (first | exact Wl.mk | refine wy1 ?_ ?_)) <;> repeat (intro hb; have hx := wy5 hb; clear hx)
        exact ⟨by rw [hr]; rfl, rfl⟩
      | cons p rest ih =>
        intro done j out h1 hj hr ho
        have hlen : F1.length = done.length + (rest.length + 1) := by rw [h1]; simp
        have gp := at_mid (f := Part.row) h1 hj
        have hpf := hff2 p (by rw [h1]; simp)
        have gn := fun out' => ih (done ++ [p]) (IntKind.wrap .i64 (j + 1)) out' (by rw [h1]; simp) (by rw [wrap_ok (by omega) (by omega)]; simp [hj])
        rw [bpartsF] at hr
        obtain ⟨pu, ⟨pk, pd⟩, pr⟩ := p
        obtain ⟨hp1, hp2⟩ := hpf
        simp only at hp1 hp2 hr
        refine wR (gI ?_)
        refine ST wz ?_ <;> (repeat' (first | exact Wl.mk | refine wy1 ?_ ?_)) <;> repeat (intro hb; have hx := wy5 hb; clear hx)
        refine wLoop [1, 2, 11, 12, 13, 14] 2 (pr.length + 1) ?_
        refine (fun key => key pr [] _ out rfl rfl rfl (Nat.le_refl _) :
          (∀ (rest2 done2 : List Rule) (j2 : Int) (out2 : List Bd), pr = done2 ++ rest2 → j2 = done2.length → brulesF G ⟨pk, pd⟩ pr out = brulesF G ⟨pk, pd⟩ rest2 out2 → out2.length ≤ out.length + done2.length →
          WR2 _ _ _ _ _ (rest2.length + 1) [(1, str a), (2, .one (.ptr 0 0)), (11, lst Part.row F1), (12, .one (.arr 1 0 (out2.map Bd.row).length)), (13, int .i64 j), (14, int .i64 j2)]
            [.var (Un.cells ⟨ds, ps, ms, ⟨dk, dd⟩⟩), .arr 0 false 9 (out2.map Bd.row)]) → _) ?_
        intro rest2
        induction rest2 with
        | nil =>
          intro done2 j2 out2 h2 hj2 hr2 ho2
          have hlen2 : pr.length = done2.length := by rw [h2]; simp
          rw [hr2, brulesF, if_pos rfl] at hr
          refine wR (gI ?_)
          refine STD wz ?_ <;> (repeat' (first | exact Wl.mk | refine wy1 ?_ ?_)) <;> repeat (intro hb; have hx := wy5 hb; clear hx)
          exact rE (gn out2 hr (by simp; omega))
        | cons x rest2 ih2 =>
          intro done2 j2 out2 h2 hj2 hr2 ho2
          have hlen2 : pr.length = done2.length + (rest2.length + 1) := by rw [h2]; simp
          have gx := at_mid (f := Rule.row) h2 hj2
          obtain ⟨x1, x2, x3⟩ := hp2 x (by rw [h2]; simp)
          have cx2 := hrb2 x ⟨pk, pd⟩ x1 x2 x3
          rw [brulesF] at hr2
          have gn2 := fun out' => ih2 (done2 ++ [x]) (IntKind.wrap .i64 (j2 + 1)) out' (by rw [h2]; simp) (by rw [wrap_ok (by omega) (by omega)]; simp [hj2])
          generalize G x ⟨pk, pd⟩ = q at cx2 hr2
          obtain ⟨xc, xp, xd⟩ := x
          obtain ⟨⟨qn, ⟨qk, qd⟩, ⟨q0, ⟨q1, q2, q3, q4⟩, q5⟩⟩, q6⟩ := q
          unfold bdV at cx2
          simp only at cx2 hr2
          refine wR (gI ?_)
          refine gRoom ?_
          refine STD (wc cx2 wz) ?_ <;> (repeat' (first | exact Wl.mk | refine wy1 ?_ ?_)) <;> repeat (intro hb; have hx := wy5 hb; clear hx)
          · rw [if_neg (bz1 hb)] at hr2
            have h6 : ¬ (([] : List Bd), q6).2 = 0 := bz1 hb
            rw [hr2, if_neg h6] at hr
            exact ⟨by rw [hr]; rfl, rfl⟩
          · rw [if_pos (bz0 hb)] at hr2
            have g := gn2 _ hr2 (by simp; omega)
            rw [List.map_append] at g
            exact rE g
end Go.Proofs.YtjjhckmnnaafkaaGreatDoor
namespace Go.Proofs.YtjjhckmnnaafkaaGreatDoor
open Go Go.Am Go.Proofs
attribute [local irreducible] W WL DL WO RoundEnd
set_option maxRecDepth 10000
set_option maxHeartbeats 4000000
mutual
def wideF : Ex → Int
  | .mk k _ _ _ l => widesF l (if k = 5 then 1 else 0)
def widesF : List Ex → Int → Int
  | [], n => n
  | x :: r, n => widesF r (IntKind.wrap .i64 (n + wideF x))
end
theorem wideR : ∀ (n : Nat) (e : Ex), e.size < n → e.size < 2 ^ 60 → Comp Tryz.prog 24 [.agg (e.row.map .d)] (int .i64 (wideF e)) := by
  intro n
  induction n with
  | zero => intro e h; omega
  | succ n IH =>
  intro e hs hn
  obtain ⟨kd, o, nm, u, l⟩ := e
  have el : Ex.rows l = l.map Ex.row := Ex.rows_eq l
  simp only [Ex.row, el, List.map_cons, List.map_nil]
  rw [Ex.size] at hs hn
  have hlen0 : l.length ≤ Ex.sizes l := sizes_len l
  generalize hfb : wideF (.mk kd o nm u l) = fb
  rw [wideF] at hfb
  refine Spec.body (C := cx [] 24) fits (fn := Tryz.f24) Tryz.func24 rfl (by decide) (by decide) (gI ?_)
  refine ST wz ?_ <;> (repeat' (first | exact Wl.mk | refine wy1 ?_ ?_)) <;> repeat (intro hb; have hx := wy5 hb; clear hx)
  all_goals
    first
      | rw [if_pos (eq_of_beq hb)] at hfb
      | rw [if_neg (by simpa using hb)] at hfb
    refine wLoop [1, 3, 4] 1 (l.length + 1) ?_
    refine (fun key => key l [] _ _ rfl rfl hfb.symm :
      (∀ (rest done : List Ex) (j m : Int), l = done ++ rest → j = done.length → fb = widesF rest m →
      WR2 _ _ _ _ _ (rest.length + 1) [(1, .one (.ptr 0 0)), (3, int .i64 m), (4, int .i64 j)] [.var [.d (.sc (.int .i64 kd)), .d (.sc (.string o)), .d (.sc (.string nm)), .d (.sc (.int .u64 u)), .d (.list (l.map Ex.row))]]) → _) ?_
    intro rest
    induction rest with
    | nil =>
      intro done j m h1 hj hr
      have hlen : l.length = done.length := by rw [h1]; simp
      refine wR (gI ?_)
      refine ST wz ?_ <;> (repeat' (first | exact Wl.mk | refine wy1 ?_ ?_)) <;> repeat (intro hb; have hx := wy5 hb; clear hx)
      exact ⟨by rw [hr, widesF]; rfl, rfl⟩
    | cons x rest ih =>
      intro done j m h1 hj hr
      have hlen : l.length = done.length + (rest.length + 1) := by rw [h1]; simp
      have hxs := Ex.size_mem (l := l) (x := x) (by rw [h1]; simp)
      have hc := IH x (by omega) (by omega)
      rw [widesF] at hr
      obtain ⟨xk, xo, xn, xu, xl⟩ := x
      refine wR (gI ?_)
      refine ST (wc hc wz) ?_ <;> (repeat' (first | exact Wl.mk | refine wy1 ?_ ?_)) <;> repeat (intro hb; have hx := wy5 hb; clear hx)
      refine rE (ih (done ++ [Ex.mk xk xo xn xu xl]) _ _ (by rw [h1]; simp) ?_ hr)
      rw [wrap_ok (by omega) (by omega)]; simp [hj]
def few15F (u : Un) : Bool := u.defs.all (fun d => !decide (wideF d.expr > 3)) && decide (manyF u.pols 0 ≤ 3)
theorem few15R (u : Un) (hu : u.fit) : Comp Tryz.prog 11 [.agg u.cells] (bool (few15F u)) := by
  have c1 := manyR u.pols (by have := hu.pols; omega) hu.parts
  have c2 := fun (d : Def) (hd : d ∈ u.defs) => wideR _ d.expr (Nat.lt_succ_self _) (by have := (hu.good.2.1 d hd).2.2; omega)
  have hl := hu.defs
  generalize hfb : few15F u = fb
  rw [few15F] at hfb
  generalize manyF u.pols 0 = M at *
  obtain ⟨ds, ps, ms, ⟨dk, dd⟩⟩ := u
  simp only at c1 c2 hl hfb
  clear hu
  refine Spec.body (C := cx [] 23) fits (fn := Tryz.f11) Tryz.func11 rfl (by decide) (by decide) (gI ?_)
  refine ST wz ?_ <;> (repeat' (first | exact Wl.mk | refine wy1 ?_ ?_)) <;> repeat (intro hb; have hx := wy5 hb; clear hx)
  refine wLoop [1, 3] 1 (ds.length + 1) ?_
  refine (fun key => key ds [] _ rfl rfl hfb.symm :
    (∀ (rest done : List Def) (j : Int), ds = done ++ rest → j = done.length → fb = (rest.all (fun d => !decide (wideF d.expr > 3)) && decide (M ≤ 3)) →
    WR2 _ _ _ _ _ (rest.length + 1) [(1, .one (.ptr 0 0)), (3, int .i64 j)] [.var [.d (.list (ds.map Def.row)), .d (.list (ps.map Pol.row)), .d (.list (ms.map strow)), .d (.sc (.int .i64 dk)), .d (.sc (.int .i64 dd))]]) → _) ?_
  intro rest
  induction rest with
  | nil =>
    intro done j h1 hj hr
    have hlen : ds.length = done.length := by rw [h1]; simp
    refine wR (gI ?_)
    refine ST (wc c1 wz) ?_ <;> (repeat' (first | exact Wl.mk | refine wy1 ?_ ?_)) <;> repeat (intro hb; have hx := wy5 hb; clear hx)
    all_goals exact ⟨by rw [hr, hb]; rfl, rfl⟩
  | cons x rest ih =>
    intro done j h1 hj hr
    have hlen : ds.length = done.length + (rest.length + 1) := by rw [h1]; simp
    have gx := at_mid (f := Def.row) h1 hj
    have cx := c2 x (by rw [h1]; simp)
    rw [List.all_cons] at hr
    obtain ⟨xn, ⟨xk, xo, xm, xu, xl⟩⟩ := x
    simp only at cx hr
    generalize wideF (Ex.mk xk xo xm xu xl) = D at *
    refine wR (gI ?_)
    refine ST (wc cx wz) ?_ <;> (repeat' (first | exact Wl.mk | refine wy1 ?_ ?_)) <;> repeat (intro hb; have hx := wy5 hb; clear hx)
    · rw [hb] at hr
      exact ⟨by rw [hr]; rfl, rfl⟩
    · rw [hb, Bool.not_false, Bool.true_and] at hr
      refine rE (ih (done ++ [⟨xn, Ex.mk xk xo xm xu xl⟩]) _ (by rw [h1]; simp) ?_ hr)
      rw [wrap_ok (by omega) (by omega)]; simp [hj]
theorem few16R (u : Un) : Comp Tryz.prog 5 [.agg u.cells] (bool (fewUnit u && few15F u)) := by
  have c1 := fewUnitR u
  cases h : fewUnit u with
  | false =>
    rw [h] at c1
    obtain ⟨ds, ps, ms, ⟨dk, dd⟩⟩ := u
    refine Spec.body (C := cx [] 9) fits (fn := Tryz.f5) Tryz.func5 rfl (by decide) (by decide) (gI ?_)
    refine ST (wc c1 wz) ?_ <;> (repeat' (first | exact Wl.mk | refine wy1 ?_ ?_)) <;> repeat (intro hb; have hx := wy5 hb; clear hx)
    exact ⟨rfl, rfl⟩
  | true =>
    rw [h] at c1
    have c2 := few15R u (few_fit h)
    cases h2 : few15F u with
    | false =>
      rw [h2] at c2
      obtain ⟨ds, ps, ms, ⟨dk, dd⟩⟩ := u
      refine Spec.body (C := cx [] 9) fits (fn := Tryz.f5) Tryz.func5 rfl (by decide) (by decide) (gI ?_)
      refine ST (wc c1 (wc c2 wz)) ?_ <;> (repeat' (first | exact Wl.mk | refine wy1 ?_ ?_)) <;> repeat (intro hb; have hx := wy5 hb; clear hx)
      exact ⟨rfl, rfl⟩
    | true =>
      rw [h2] at c2
      obtain ⟨ds, ps, ms, ⟨dk, dd⟩⟩ := u
      refine Spec.body (C := cx [] 9) fits (fn := Tryz.f5) Tryz.func5 rfl (by decide) (by decide) (gI ?_)
      refine ST (wc c1 (wc c2 wz)) ?_ <;> (repeat' (first | exact Wl.mk | refine wy1 ?_ ?_)) <;> repeat (intro hb; have hx := wy5 hb; clear hx)
      exact ⟨rfl, rfl⟩
theorem num16 (e : Int) : Comp Tryz.prog 9 [int .i64 e] (int .i64 e) := by
  refine Spec.body (C := cx [] 4) fits (fn := Tryz.f9) Tryz.func9 rfl (by decide) (by decide) (gI ?_)
  refine ST wz ?_ <;> (repeat' (first | exact Wl.mk | refine wy1 ?_ ?_)) <;> repeat (intro hb; have hx := wy5 hb; clear hx)
  exact ⟨rfl, rfl⟩
def u16a : Un := ⟨[], [], [], ⟨0, 0⟩⟩
def u16b : Un := ⟨[], [⟨⟨#[112]⟩, [⟨⟨#[]⟩, ⟨7, 0⟩, [⟨⟨#[119, 114, 105, 116, 101]⟩, [], []⟩]⟩]⟩], [⟨#[112]⟩], ⟨6, 0⟩⟩
theorem alive16 : Comp Tryz.prog 4 [] (bool true) := by
  have h1 := rulesB u16a arch2 (few_fit (by with_unfolding_all rfl))
  have h2 := rulesB u16b arch2 (few_fit (by with_unfolding_all rfl))
  have e1 : rulesF u16a (callsOf arch2) = ([], 1) := by with_unfolding_all rfl
  have e2 : rulesF u16b (callsOf arch2) = ([⟨1, ⟨7, 0⟩, .mk 1 atm0 []⟩], 0) := by with_unfolding_all rfl
  rw [e1] at h1
  rw [e2] at h2
  have h3 := num16 0
  have h4 := num16 1
  unfold u16a arch2 at h1
  unfold u16b arch2 at h2
  unfold bdsV at h1 h2
  refine Spec.body (C := cx [] 44) fits (fn := Tryz.f4) Tryz.func4 rfl (by decide) (by decide) (gI ?_)
  refine ST (wc h1 (wc h2 (wc h3 (wc h4 wz)))) ?_ <;> (repeat' (first | exact Wl.mk | refine wy1 ?_ ?_)) <;> repeat (intro hb; have hx := wy5 hb; clear hx)
  exact ⟨rfl, rfl⟩
/-- what rules are bound has conditions of few parts -/
theorem brule_ok (ds : List Def) (c : Option (Int × List ByteArray)) (r : Rule) (a : Act) (h : ∀ e ∈ r.cond, e.ok) : (bruleF ds c r a).1.cond.ok := by
  obtain ⟨rc, rp, rx⟩ := r
  have h0 : cd0.ok := ⟨by simp, trivial⟩
  rcases c with _ | ⟨nr, cp⟩
  · exact h0
  · rcases rx with _ | ⟨x, rx⟩
    · rw [brule_nil]; split
      · exact ⟨by simp, trivial⟩
      · exact h0
    · rw [brule_cons]; split
      · split
        · exact cnd_ok _ _ x (h x (by simp))
        · exact h0
      · exact h0
theorem brules_ok {g : Rule → Act → Bd × Int} {a : Act} : ∀ (l : List Rule) (out : List Bd), (∀ r ∈ l, (g r a).1.cond.ok) → (∀ x ∈ out, x.cond.ok) → (∀ x ∈ (brulesF g a l out).1, x.cond.ok) ∧ (brulesF g a l out).1.length ≤ l.length + out.length
  | [], out, _, ho => by rw [brulesF]; exact ⟨ho, by simp⟩
  | r :: l, out, hl, ho => by
    rw [brulesF]
    split
    · have := brules_ok (g := g) (a := a) l (out ++ [(g r a).1]) (fun r hr => hl r (by simp [hr])) (by
        intro x hx
        rcases List.mem_append.1 hx with hx | hx
        · exact ho x hx
        · rw [List.mem_singleton.1 hx]; exact hl r (by simp))
      refine ⟨this.1, ?_⟩
      have h2 := this.2
      simp only [List.length_append, List.length_cons, List.length_nil] at h2 ⊢; omega
    · exact ⟨fun x hx => (by cases hx), by simp⟩
theorem bparts_ok {g : Rule → Act → Bd × Int} : ∀ (l : List Part) (out : List Bd), (∀ p ∈ l, p.rules.length ≤ 12 ∧ ∀ r ∈ p.rules, (g r p.act).1.cond.ok) → (∀ x ∈ out, x.cond.ok) → (∀ x ∈ (bpartsF g l out).1, x.cond.ok) ∧ (bpartsF g l out).1.length ≤ 12 * l.length + out.length
  | [], out, _, ho => by rw [bpartsF]; exact ⟨ho, by simp⟩
  | p :: l, out, hl, ho => by
    rw [bpartsF]
    have h1 := brules_ok (g := g) (a := p.act) p.rules out (hl p (by simp)).2 ho
    have h3 := (hl p (by simp)).1
    split
    · have := bparts_ok (g := g) l (brulesF g p.act p.rules out).1 (fun r hr => hl r (by simp [hr])) h1.1
      refine ⟨this.1, ?_⟩
      have h2 := this.2
      simp only [List.length_cons]; omega
    · exact ⟨fun x hx => (by cases hx), by simp⟩
theorem rules_ok (u : Un) (hu : u.fit) (L : Option (List Cal)) : (∀ x ∈ (rulesF u L).1, x.cond.ok) ∧ (rulesF u L).1.length ≤ 6000 := by
  have hn : (∀ x ∈ ([] : List Bd), x.cond.ok) ∧ ([] : List Bd).length ≤ 6000 := ⟨fun x hx => (by cases hx), by simp⟩
  unfold rulesF
  cases L with
  | none => exact hn
  | some l =>
    simp only
    split
    · rename_i hr
      split
      · split
        · have hf := flatF_all (P := Part.fine) (fun x hx => hx) u.pols u.main (hu.fine hr)
          have hl := (flatF_out u.pols u.main hu.ok).1
          have := bparts_ok (g := ruleG u l) (flatF u.pols u.main).1 [] (fun p hp => ⟨(hf p hp).1, fun r hrm => brule_ok _ _ r _ fun e he => (((hf p hp).2 r hrm).2.2 e he).2.1⟩) (by intro x hx; cases hx)
          refine ⟨this.1, ?_⟩
          have h2 := this.2
          simp only [List.length_nil] at h2; omega
        · exact hn
      · exact hn
    · exact hn
theorem tell16 (u : Un) (a : ByteArray) : Comp Tryz.prog 3 [.agg u.cells, str a] (bool true) := by
  have c0 := alive16
  have c1 := few16R u
  cases h : (fewUnit u && few15F u) with
  | false =>
    rw [h] at c1
    obtain ⟨ds, ps, ms, ⟨dk, dd⟩⟩ := u
    refine Spec.body (C := cx [] 45) fits (fn := Tryz.f3) Tryz.func3 rfl (by decide) (by decide) (gI ?_)
    refine ST (wc c0 (wc c1 wz)) ?_ <;> (repeat' (first | exact Wl.mk | refine wy1 ?_ ?_)) <;> repeat (intro hb; have hx := wy5 hb; clear hx)
    exact ⟨rfl, rfl⟩
  | true =>
    rw [h] at c1
    have hu := few_fit (Bool.and_eq_true_iff.1 h).1
    have c2 := rulesB u a hu
    have c3 := rulesD u a hu
    have hk := rules_ok u hu (callsOf a)
    have c4 := sameBds (rulesF u (callsOf a)).1 (rulesF u (callsOf a)).1 (by omega) hk.1
    rw [pw_refl Bd.eqb_refl] at c4
    have c5 := num16 (rulesF u (callsOf a)).2
    clear hk
    generalize rulesF u (callsOf a) = q at *
    obtain ⟨q1, q2⟩ := q
    unfold bdsV at c2 c3
    obtain ⟨ds, ps, ms, ⟨dk, dd⟩⟩ := u
    simp only at c4 c5
    refine Spec.body (C := cx [] 45) fits (fn := Tryz.f3) Tryz.func3 rfl (by decide) (by decide) (gI ?_)
    refine ST (wc c0 (wc c1 (wc c2 (wc c3 (wc c4 (wc c5 wz)))))) ?_ <;> (repeat' (first | exact Wl.mk | refine wy1 ?_ ?_)) <;> repeat (intro hb; have hx := wy5 hb; clear hx)
    all_goals exact ⟨rfl, rfl⟩
theorem tell16_typed {x0 x1 : List D} (y0 : Typed Tryz.prog 28 x0) (y1 : Typed Tryz.prog 9 x1) :
    Comp Tryz.prog 3 [argV (aggTy Tryz.prog 28) x0, argV (aggTy Tryz.prog 9) x1] (Am.bool true) := by
  have a0 : aggTy Tryz.prog 9 = false := by unfold aggTy; rw [Tryz.underlying9]
  have a2 : aggTy Tryz.prog 28 = true := by unfold aggTy; rw [Tryz.underlying28]
  obtain ⟨s, rfl, _⟩ := str_typed y1
  obtain ⟨u, hu⟩ := un_typed y0
  rw [a0, a2]
  simp only [argV, cond_true, hu]
  exact tell16 u s
end Go.Proofs.YtjjhckmnnaafkaaGreatDoor
