/- A part of a proof: functions of the program, walked over the abstract machine. -/
import Derived.Test.YtceccgnpkelpkaaSpan14
set_option linter.unusedVariables false
set_option linter.unusedSimpArgs false
namespace Go.Proofs.Ytceccgnpkelpkaa
open Go Go.Am Go.Proofs
attribute [local irreducible] W WL DL WO RoundEnd
set_option maxRecDepth 10000
set_option maxHeartbeats 4000000
/-- six numbers -/
structure Six where
  a0 : Int
  a1 : Int
  a2 : Int
  a3 : Int
  a4 : Int
  a5 : Int
def Six.row (a : Six) : List D := [.sc (.int .u64 a.a0), .sc (.int .u64 a.a1), .sc (.int .u64 a.a2), .sc (.int .u64 a.a3), .sc (.int .u64 a.a4), .sc (.int .u64 a.a5)]
def Six.at (a : Six) (i : Int) : Int :=
  if i = 0 then a.a0 else if i = 1 then a.a1 else if i = 2 then a.a2 else if i = 3 then a.a3 else if i = 4 then a.a4 else a.a5
def low32 (x : Int) : Int := IntKind.u32.wrap (IntKind.u64.wrap ↑(BitVec.ofInt IntKind.u64.bits x &&& BitVec.ofInt IntKind.u64.bits 4294967295).toNat)
def high32 (x : Int) : Int := IntKind.u32.wrap (x.fdiv (2 ^ min (Int.toNat 32) IntKind.u64.bits))
def and32i (x m : Int) : Int := IntKind.u32.wrap ↑(BitVec.ofInt IntKind.u32.bits x &&& BitVec.ofInt IntKind.u32.bits m).toNat
def halfF (a : Six) (h : Half) : Bool :=
  h.right && compF h.op (IntKind.u64.wrap (and32i (if h.high then high32 (a.at h.arg) else low32 (a.at h.arg)) h.mask)) (IntKind.u64.wrap h.value)
theorem holds1 (a : Six) (h : Half) : Comp Try.prog 63 [.agg (h.row.map .d), .agg (a.row.map .d)] (bool (halfF a h)) := by
  have c1 := rightHalfR h
  cases hr : h.right with
  | false =>
    rw [hr] at c1
    have hx : halfF a h = false := by rw [halfF, hr]; rfl
    rw [hx]
    obtain ⟨xa, xo, xh, xm, xv⟩ := h
    obtain ⟨a0, a1, a2, a3, a4, a5⟩ := a
    refine Spec.body (C := cx [] 34) fits (fn := Try.f63) Try.func63 rfl (by decide) (by decide) (gI ?_)
    repeat' (first | ((first | refine runC ?_ | refine runC0 ?_ | refine runO ?_ | refine runR ?_); (conv => whnf); first | (refine ⟨fun hb => ?_, fun hb => ?_⟩ <;> try exact noWay) | refine oA ?_ | refine oB ?_ | refine oC ?_ | refine oR ?_ | refine fR ?_ | refine fRk ?_ | refine oF ?_) | refine sC (c1) ?_ | refine sSA ?_ | refine sL ?_ | refine sQ ?_ | refine sX ?_ | refine sXa ?_ | refine sXs ?_ | refine sK ?_ | refine sKa ?_ | refine sLk ?_ | refine sUp ?_ | refine sDel ?_ | refine sSt ?_ | refine sLU ?_ | refine sXw ?_ | refine sLe ?_ | refine sSe ?_ | refine sM ?_ | refine sA ?_ | refine sA0 ?_ | refine sA1 ?_ | refine sMk ?_ | refine sV ?_ | refine sW ?_ | fail)
    exact ⟨rfl, rfl⟩
  | true =>
    rw [hr] at c1
    have hx : halfF a h = compF h.op (IntKind.u64.wrap (and32i (if h.high then high32 (a.at h.arg) else low32 (a.at h.arg)) h.mask)) (IntKind.u64.wrap h.value) := by rw [halfF, hr]; rfl
    rw [hx]
    obtain ⟨xa, xo, xh, xm, xv⟩ := h
    obtain ⟨a0, a1, a2, a3, a4, a5⟩ := a
    have h6 : xa = 0 ∨ xa = 1 ∨ xa = 2 ∨ xa = 3 ∨ xa = 4 ∨ xa = 5 := by
      simp [Half.right] at hr; omega
    rcases h6 with rfl | rfl | rfl | rfl | rfl | rfl <;> cases xh
    all_goals
      refine Spec.body (C := cx [] 34) fits (fn := Try.f63) Try.func63 rfl (by decide) (by decide) (gI ?_)
      repeat' (first | ((first | refine runC ?_ | refine runC0 ?_ | refine runO ?_ | refine runR ?_); (conv => whnf); first | (refine ⟨fun hb => ?_, fun hb => ?_⟩ <;> try exact noWay) | refine oA ?_ | refine oB ?_ | refine oC ?_ | refine oR ?_ | refine fR ?_ | refine fRk ?_ | refine oF ?_) | refine sC (c1) ?_ | refine sC (compR _ _ _) ?_ | refine sSA ?_ | refine sL ?_ | refine sQ ?_ | refine sX ?_ | refine sXa ?_ | refine sXs ?_ | refine sK ?_ | refine sKa ?_ | refine sLk ?_ | refine sUp ?_ | refine sDel ?_ | refine sSt ?_ | refine sLU ?_ | refine sXw ?_ | refine sLe ?_ | refine sSe ?_ | refine sM ?_ | refine sA ?_ | refine sA0 ?_ | refine sA1 ?_ | refine sMk ?_ | refine sV ?_ | refine sW ?_ | fail)
      all_goals first | exact ⟨rfl, rfl⟩ | trace_state
def someF (a : Six) (l : List (List Half)) : Bool := l.any fun c => c.all (halfF a)
theorem someR (a : Six) (l : List (List Half)) (hl : l.length < 2 ^ 60) (hc : ∀ c ∈ l, c.length < 2 ^ 60) : Comp Try.prog 43 [lst crow l, .agg (a.row.map .d)] (bool (someF a l)) := by
  generalize hfb : someF a l = fb
  refine Spec.body (C := cx [] 36) fits (fn := Try.f43) Try.func43 rfl (by decide) (by decide) (gI ?_)
  repeat' (first | ((first | refine runC ?_ | refine runC0 ?_ | refine runO ?_ | refine runR ?_); (conv => whnf); first | (refine ⟨fun hb => ?_, fun hb => ?_⟩ <;> try exact noWay) | refine oA ?_ | refine oB ?_ | refine oC ?_ | refine oR ?_ | refine fR ?_ | refine fRk ?_ | refine oF ?_) | refine sSA ?_ | refine sL ?_ | refine sQ ?_ | refine sX ?_ | refine sXa ?_ | refine sXs ?_ | refine sK ?_ | refine sKa ?_ | refine sLk ?_ | refine sUp ?_ | refine sDel ?_ | refine sSt ?_ | refine sLU ?_ | refine sXw ?_ | refine sLe ?_ | refine sSe ?_ | refine sM ?_ | refine sA ?_ | refine sA0 ?_ | refine sA1 ?_ | refine sMk ?_ | refine sV ?_ | refine sW ?_ | refine tSA ?_ | refine tL ?_ | refine tQ ?_ | refine tX ?_ | refine tXs ?_ | refine tK ?_ | refine tKa ?_ | refine tLk ?_ | refine tUp ?_ | refine tA ?_ | refine tA0 ?_ | refine tSt ?_ | refine tLU ?_ | refine tXw ?_ | refine tLe ?_ | refine tSe ?_ | refine tM ?_ | refine tN ?_ | refine tV ?_ | refine tW ?_ | fail)
  refine wLoop [0, 3, 5] 1 (l.length + 1) ?_
  refine (fun key => key l [] _ rfl rfl hfb.symm :
    (∀ (rest done : List (List Half)) (j : Int), l = done ++ rest → j = done.length → fb = someF a rest →
    WR2 _ _ _ _ _ (rest.length + 1) [(0, lst crow l), (3, .one (.ptr 0 0)), (5, int .i64 j)] [.var (a.row.map .d)]) → _) ?_
  intro rest
  induction rest with
  | nil =>
    intro done j h1 hj hr
    have hlen : l.length = done.length := by rw [h1]; simp
    refine wR (gI ?_)
    repeat' (first | ((first | refine runC ?_ | refine runC0 ?_ | refine runO ?_ | refine runR ?_); (conv => whnf); first | (refine ⟨fun hb => ?_, fun hb => ?_⟩ <;> try exact noWay) | refine oA ?_ | refine oB ?_ | refine oC ?_ | refine oR ?_ | refine fR ?_ | refine fRk ?_ | refine oF ?_) | refine sSA ?_ | refine sL ?_ | refine sQ ?_ | refine sX ?_ | refine sXa ?_ | refine sXs ?_ | refine sK ?_ | refine sKa ?_ | refine sLk ?_ | refine sUp ?_ | refine sDel ?_ | refine sSt ?_ | refine sLU ?_ | refine sXw ?_ | refine sLe ?_ | refine sSe ?_ | refine sM ?_ | refine sA ?_ | refine sA0 ?_ | refine sA1 ?_ | refine sMk ?_ | refine sV ?_ | refine sW ?_ | refine tSA ?_ | refine tL ?_ | refine tQ ?_ | refine tX ?_ | refine tXs ?_ | refine tK ?_ | refine tKa ?_ | refine tLk ?_ | refine tUp ?_ | refine tA ?_ | refine tA0 ?_ | refine tSt ?_ | refine tLU ?_ | refine tXw ?_ | refine tLe ?_ | refine tSe ?_ | refine tM ?_ | refine tN ?_ | refine tV ?_ | refine tW ?_ | fail)
    exact ⟨by rw [hr]; rfl, rfl⟩
  | cons x rest ih =>
    intro done j h1 hj hr
    have hlen : l.length = done.length + (rest.length + 1) := by rw [h1]; simp
    have hxl := hc x (by rw [h1]; simp)
    have gx := at_mid (f := crow) h1 hj
    rw [someF, List.any_cons] at hr
    refine wR (gI ?_)
    repeat' (first | ((first | refine runC ?_ | refine runC0 ?_ | refine runO ?_ | refine runR ?_); (conv => whnf); first | (refine ⟨fun hb => ?_, fun hb => ?_⟩ <;> try exact noWay) | refine oA ?_ | refine oB ?_ | refine oC ?_ | refine oR ?_ | refine fR ?_ | refine fRk ?_ | refine oF ?_) | refine sSA ?_ | refine sL ?_ | refine sQ ?_ | refine sX ?_ | refine sXa ?_ | refine sXs ?_ | refine sK ?_ | refine sKa ?_ | refine sLk ?_ | refine sUp ?_ | refine sDel ?_ | refine sSt ?_ | refine sLU ?_ | refine sXw ?_ | refine sLe ?_ | refine sSe ?_ | refine sM ?_ | refine sA ?_ | refine sA0 ?_ | refine sA1 ?_ | refine sMk ?_ | refine sV ?_ | refine sW ?_ | refine tSA ?_ | refine tL ?_ | refine tQ ?_ | refine tX ?_ | refine tXs ?_ | refine tK ?_ | refine tKa ?_ | refine tLk ?_ | refine tUp ?_ | refine tA ?_ | refine tA0 ?_ | refine tSt ?_ | refine tLU ?_ | refine tXw ?_ | refine tLe ?_ | refine tSe ?_ | refine tM ?_ | refine tN ?_ | refine tV ?_ | refine tW ?_ | fail)
    refine wLoop [0, 3, 5, 6, 7] 1 (x.length + 1) ?_
    refine (fun key => key x [] _ true rfl rfl (by rw [Bool.true_and]; exact hr) :
      (∀ (r2 d2 : List Half) (i : Int) (b : Bool), x = d2 ++ r2 → i = d2.length → fb = ((b && r2.all (halfF a)) || rest.any fun c => c.all (halfF a)) →
      WR2 _ _ _ _ _ (r2.length + 1) [(0, lst crow l), (3, .one (.ptr 0 0)), (5, int .i64 j), (6, bool b), (7, int .i64 i)] [.var (a.row.map .d)]) → _) ?_
    intro r2
    induction r2 with
    | nil =>
      intro d2 i b k1 hi hr2
      have hlen2 : x.length = d2.length := by rw [k1]; simp
      cases b with
      | true =>
        refine wR (gI ?_)
        repeat' (first | ((first | refine runC ?_ | refine runC0 ?_ | refine runO ?_ | refine runR ?_); (conv => whnf); first | (refine ⟨fun hb => ?_, fun hb => ?_⟩ <;> try exact noWay) | refine oA ?_ | refine oB ?_ | refine oC ?_ | refine oR ?_ | refine fR ?_ | refine fRk ?_ | refine oF ?_) | refine sSA ?_ | refine sL ?_ | refine sQ ?_ | refine sX ?_ | refine sXa ?_ | refine sXs ?_ | refine sK ?_ | refine sKa ?_ | refine sLk ?_ | refine sUp ?_ | refine sDel ?_ | refine sSt ?_ | refine sLU ?_ | refine sXw ?_ | refine sLe ?_ | refine sSe ?_ | refine sM ?_ | refine sA ?_ | refine sA0 ?_ | refine sA1 ?_ | refine sMk ?_ | refine sV ?_ | refine sW ?_ | refine tSA ?_ | refine tL ?_ | refine tQ ?_ | refine tX ?_ | refine tXs ?_ | refine tK ?_ | refine tKa ?_ | refine tLk ?_ | refine tUp ?_ | refine tA ?_ | refine tA0 ?_ | refine tSt ?_ | refine tLU ?_ | refine tXw ?_ | refine tLe ?_ | refine tSe ?_ | refine tM ?_ | refine tN ?_ | refine tV ?_ | refine tW ?_ | fail)
        exact ⟨by rw [hr2]; rfl, rfl⟩
      | false =>
        refine wR (gI ?_)
        repeat' (first | ((first | refine runC ?_ | refine runC0 ?_ | refine runO ?_ | refine runR ?_); (conv => whnf); first | (refine ⟨fun hb => ?_, fun hb => ?_⟩ <;> try exact noWay) | refine oA ?_ | refine oB ?_ | refine oC ?_ | refine oR ?_ | refine fR ?_ | refine fRk ?_ | refine oF ?_) | refine sSA ?_ | refine sL ?_ | refine sQ ?_ | refine sX ?_ | refine sXa ?_ | refine sXs ?_ | refine sK ?_ | refine sKa ?_ | refine sLk ?_ | refine sUp ?_ | refine sDel ?_ | refine sSt ?_ | refine sLU ?_ | refine sXw ?_ | refine sLe ?_ | refine sSe ?_ | refine sM ?_ | refine sA ?_ | refine sA0 ?_ | refine sA1 ?_ | refine sMk ?_ | refine sV ?_ | refine sW ?_ | refine tSA ?_ | refine tL ?_ | refine tQ ?_ | refine tX ?_ | refine tXs ?_ | refine tK ?_ | refine tKa ?_ | refine tLk ?_ | refine tUp ?_ | refine tA ?_ | refine tA0 ?_ | refine tSt ?_ | refine tLU ?_ | refine tXw ?_ | refine tLe ?_ | refine tSe ?_ | refine tM ?_ | refine tN ?_ | refine tV ?_ | refine tW ?_ | fail)
        refine rE (ih (done ++ [x]) _ (by rw [h1]; simp) ?_ ?_)
        · rw [wrap_ok (by omega) (by omega)]; simp [hj]
        · rw [hr2]; simp [someF]
    | cons u r2 ih2 =>
      intro d2 i b k1 hi hr2
      have hlen2 : x.length = d2.length + (r2.length + 1) := by rw [k1]; simp
      have hu := holds1 a u
      have gu := at_mid (f := Half.row) k1 hi
      cases b with
      | true =>
        refine wR (gI ?_)
        repeat' (first | ((first | refine runC ?_ | refine runC0 ?_ | refine runO ?_ | refine runR ?_); (conv => whnf); first | (refine ⟨fun hb => ?_, fun hb => ?_⟩ <;> try exact noWay) | refine oA ?_ | refine oB ?_ | refine oC ?_ | refine oR ?_ | refine fR ?_ | refine fRk ?_ | refine oF ?_) | refine sC (hu) ?_ | refine sSA ?_ | refine sL ?_ | refine sQ ?_ | refine sX ?_ | refine sXa ?_ | refine sXs ?_ | refine sK ?_ | refine sKa ?_ | refine sLk ?_ | refine sUp ?_ | refine sDel ?_ | refine sSt ?_ | refine sLU ?_ | refine sXw ?_ | refine sLe ?_ | refine sSe ?_ | refine sM ?_ | refine sA ?_ | refine sA0 ?_ | refine sA1 ?_ | refine sMk ?_ | refine sV ?_ | refine sW ?_ | refine tC (hu) ?_ | refine tSA ?_ | refine tL ?_ | refine tQ ?_ | refine tX ?_ | refine tXs ?_ | refine tK ?_ | refine tKa ?_ | refine tLk ?_ | refine tUp ?_ | refine tA ?_ | refine tA0 ?_ | refine tSt ?_ | refine tLU ?_ | refine tXw ?_ | refine tLe ?_ | refine tSe ?_ | refine tM ?_ | refine tN ?_ | refine tV ?_ | refine tW ?_ | fail)
        refine rE (ih2 (d2 ++ [u]) _ (halfF a u) (by rw [k1]; simp) ?_ ?_)
        · rw [wrap_ok (by omega) (by omega)]; simp [hi]
        · rw [hr2]; simp [List.all_cons]
      | false =>
        refine wR (gI ?_)
        repeat' (first | ((first | refine runC ?_ | refine runC0 ?_ | refine runO ?_ | refine runR ?_); (conv => whnf); first | (refine ⟨fun hb => ?_, fun hb => ?_⟩ <;> try exact noWay) | refine oA ?_ | refine oB ?_ | refine oC ?_ | refine oR ?_ | refine fR ?_ | refine fRk ?_ | refine oF ?_) | refine sSA ?_ | refine sL ?_ | refine sQ ?_ | refine sX ?_ | refine sXa ?_ | refine sXs ?_ | refine sK ?_ | refine sKa ?_ | refine sLk ?_ | refine sUp ?_ | refine sDel ?_ | refine sSt ?_ | refine sLU ?_ | refine sXw ?_ | refine sLe ?_ | refine sSe ?_ | refine sM ?_ | refine sA ?_ | refine sA0 ?_ | refine sA1 ?_ | refine sMk ?_ | refine sV ?_ | refine sW ?_ | refine tSA ?_ | refine tL ?_ | refine tQ ?_ | refine tX ?_ | refine tXs ?_ | refine tK ?_ | refine tKa ?_ | refine tLk ?_ | refine tUp ?_ | refine tA ?_ | refine tA0 ?_ | refine tSt ?_ | refine tLU ?_ | refine tXw ?_ | refine tLe ?_ | refine tSe ?_ | refine tM ?_ | refine tN ?_ | refine tV ?_ | refine tW ?_ | fail)
        refine rE (ih2 (d2 ++ [u]) _ false (by rw [k1]; simp) ?_ ?_)
        · rw [wrap_ok (by omega) (by omega)]; simp [hi]
        · rw [hr2]; simp
def ledActF (a : Six) : List Stp → Act → Act
  | [], d => d
  | s :: r, d => if someF a s.clauses then s.act else ledActF a r d
theorem ledActR (a : Six) (l : List Stp) (d : Act) (hl : l.length < 2 ^ 60) (hs : ∀ s ∈ l, s.clauses.length < 2 ^ 60 ∧ ∀ c ∈ s.clauses, c.length < 2 ^ 60) :
    Comp Try.prog 19 [lst Stp.row l, .agg (d.row.map .d), .agg (a.row.map .d)] (.agg ((ledActF a l d).row.map .d)) := by
  generalize hfb : ledActF a l d = fb
  obtain ⟨dk, dd⟩ := d
  obtain ⟨fk, fd⟩ := fb
  refine Spec.body (C := cx [] 27) fits (fn := Try.f19) Try.func19 rfl (by decide) (by decide) (gI ?_)
  repeat' (first | ((first | refine runC ?_ | refine runC0 ?_ | refine runO ?_ | refine runR ?_); (conv => whnf); first | (refine ⟨fun hb => ?_, fun hb => ?_⟩ <;> try exact noWay) | refine oA ?_ | refine oB ?_ | refine oC ?_ | refine oR ?_ | refine fR ?_ | refine fRk ?_ | refine oF ?_) | refine sSA ?_ | refine sL ?_ | refine sQ ?_ | refine sX ?_ | refine sXa ?_ | refine sXs ?_ | refine sK ?_ | refine sKa ?_ | refine sLk ?_ | refine sUp ?_ | refine sDel ?_ | refine sSt ?_ | refine sLU ?_ | refine sXw ?_ | refine sLe ?_ | refine sSe ?_ | refine sM ?_ | refine sA ?_ | refine sA0 ?_ | refine sA1 ?_ | refine sMk ?_ | refine sV ?_ | refine sW ?_ | refine tSA ?_ | refine tL ?_ | refine tQ ?_ | refine tX ?_ | refine tXs ?_ | refine tK ?_ | refine tKa ?_ | refine tLk ?_ | refine tUp ?_ | refine tA ?_ | refine tA0 ?_ | refine tSt ?_ | refine tLU ?_ | refine tXw ?_ | refine tLe ?_ | refine tSe ?_ | refine tM ?_ | refine tN ?_ | refine tV ?_ | refine tW ?_ | fail)
  refine wLoop [0, 4, 5, 6, 7] 3 (l.length + 1) ?_
  refine (fun key => key l [] _ rfl rfl hfb.symm :
    (∀ (rest done : List Stp) (j : Int), l = done ++ rest → j = done.length → ⟨fk, fd⟩ = ledActF a rest ⟨dk, dd⟩ →
    WR2 _ _ _ _ _ (rest.length + 1) [(0, lst Stp.row l), (4, .one (.ptr 0 0)), (5, .one (.ptr 1 0)), (6, .one (.ptr 2 0)), (7, int .i64 j)] [.var [.d (.sc (.int .i64 dk)), .d (.sc (.int .i64 dd))], .var (a.row.map .d), .var [.d (.sc (.int .i64 0)), .d (.sc (.int .i64 0))]]) → _) ?_
  intro rest
  induction rest with
  | nil =>
    intro done j h1 hj hr
    have hlen : l.length = done.length := by rw [h1]; simp
    simp only [ledActF, Act.mk.injEq] at hr
    obtain ⟨rfl, rfl⟩ := hr
    refine wR (gI ?_)
    repeat' (first | ((first | refine runC ?_ | refine runC0 ?_ | refine runO ?_ | refine runR ?_); (conv => whnf); first | (refine ⟨fun hb => ?_, fun hb => ?_⟩ <;> try exact noWay) | refine oA ?_ | refine oB ?_ | refine oC ?_ | refine oR ?_ | refine fR ?_ | refine fRk ?_ | refine oF ?_) | refine sSA ?_ | refine sL ?_ | refine sQ ?_ | refine sX ?_ | refine sXa ?_ | refine sXs ?_ | refine sK ?_ | refine sKa ?_ | refine sLk ?_ | refine sUp ?_ | refine sDel ?_ | refine sSt ?_ | refine sLU ?_ | refine sXw ?_ | refine sLe ?_ | refine sSe ?_ | refine sM ?_ | refine sA ?_ | refine sA0 ?_ | refine sA1 ?_ | refine sMk ?_ | refine sV ?_ | refine sW ?_ | refine tSA ?_ | refine tL ?_ | refine tQ ?_ | refine tX ?_ | refine tXs ?_ | refine tK ?_ | refine tKa ?_ | refine tLk ?_ | refine tUp ?_ | refine tA ?_ | refine tA0 ?_ | refine tSt ?_ | refine tLU ?_ | refine tXw ?_ | refine tLe ?_ | refine tSe ?_ | refine tM ?_ | refine tN ?_ | refine tV ?_ | refine tW ?_ | fail)
    exact ⟨rfl, rfl⟩
  | cons x rest ih =>
    intro done j h1 hj hr
    have hlen : l.length = done.length + (rest.length + 1) := by rw [h1]; simp
    have hx := hs x (by rw [h1]; simp)
    have hu := someR a x.clauses hx.1 hx.2
    rw [ledActF] at hr
    have gx := at_mid (f := Stp.row) h1 hj
    obtain ⟨cs, ⟨ak, ad⟩⟩ := x
    refine wR (gI ?_)
    repeat' (first | ((first | refine runC ?_ | refine runC0 ?_ | refine runO ?_ | refine runR ?_); (conv => whnf); first | (refine ⟨fun hb => ?_, fun hb => ?_⟩ <;> try exact noWay) | refine oA ?_ | refine oB ?_ | refine oC ?_ | refine oR ?_ | refine fR ?_ | refine fRk ?_ | refine oF ?_) | refine sB (hu) (fun h5 => ?_) fun h5 => ?_ | refine sSA ?_ | refine sL ?_ | refine sQ ?_ | refine sX ?_ | refine sXa ?_ | refine sXs ?_ | refine sK ?_ | refine sKa ?_ | refine sLk ?_ | refine sUp ?_ | refine sDel ?_ | refine sSt ?_ | refine sLU ?_ | refine sXw ?_ | refine sLe ?_ | refine sSe ?_ | refine sM ?_ | refine sA ?_ | refine sA0 ?_ | refine sA1 ?_ | refine sMk ?_ | refine sV ?_ | refine sW ?_ | refine tB (hu) (fun h5 => ?_) fun h5 => ?_ | refine tSA ?_ | refine tL ?_ | refine tQ ?_ | refine tX ?_ | refine tXs ?_ | refine tK ?_ | refine tKa ?_ | refine tLk ?_ | refine tUp ?_ | refine tA ?_ | refine tA0 ?_ | refine tSt ?_ | refine tLU ?_ | refine tXw ?_ | refine tLe ?_ | refine tSe ?_ | refine tM ?_ | refine tN ?_ | refine tV ?_ | refine tW ?_ | fail)
    · have h6 : someF a cs = true := h5
      rw [if_pos h6] at hr
      simp only [Act.mk.injEq] at hr
      obtain ⟨rfl, rfl⟩ := hr
      exact ⟨rfl, rfl⟩
    · have h6 : someF a cs = false := h5
      rw [if_neg (by simp [h6])] at hr
      refine rE (ih (done ++ [⟨cs, ⟨ak, ad⟩⟩]) _ (by rw [h1]; simp) ?_ hr)
      rw [wrap_ok (by omega) (by omega)]; simp [hj]
end Go.Proofs.Ytceccgnpkelpkaa
