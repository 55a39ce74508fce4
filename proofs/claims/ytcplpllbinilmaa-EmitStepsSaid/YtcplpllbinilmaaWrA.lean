/- wr1 wr2 wr3 wr4 wr5 wr6 wr7, as one text. -/
import Derived.Test.YtcplpllbinilmaaEmA
import Derived.Test.YtcplpllbinilmaaTypes
import Derived.Test.YtcplpllbinilmaaRspA
set_option linter.unusedVariables false
set_option linter.unusedSimpArgs false
/- The writer of code: names, symbols, labels. -/
namespace Go.Proofs.Ytcplpllbinilmaa
open Go Go.Am Go.Proofs
attribute [local irreducible] W WL DL WO RoundEnd
set_option maxRecDepth 10000
set_option maxHeartbeats 4000000
set_option linter.unusedVariables false
set_option linter.unusedSimpArgs false
/-- the writer: its symbols, how many labels there are, the next symbol's label -/
structure Wr where
  l : List Sym
  n : Int
  p : Int
def wrS (w : Wr) : St := [.var [.arr 1 0 (w.l.map Sym.row).length, .d (.sc (.int .i64 w.n)), .d (.sc (.int .i64 w.p))], .arr 0 false 5 (w.l.map Sym.row)]
def wrP : V := .one (.ptr 0 0)
abbrev symV (x : Sym) : V := .agg (x.row.map .d)
def nameW (w : Wr) : Wr := ⟨w.l, w.n + 1, w.p⟩
def emitW (w : Wr) (I : List Item) : Wr := ⟨w.l ++ asm w.p I, w.n, pend w.p I⟩
theorem emit_app (w : Wr) (a b : List Item) : emitW (emitW w a) b = emitW w (a ++ b) := by
  unfold emitW
  simp only
  rw [asm_app, pend_app, List.append_assoc]
theorem emit_nil (w : Wr) : emitW w [] = w := by
  unfold emitW
  obtain ⟨l, n, p⟩ := w
  show (⟨l ++ [], n, p⟩ : Wr) = ⟨l, n, p⟩
  rw [List.append_nil]
theorem emit_len (w : Wr) (I : List Item) : (emitW w I).l.length ≤ w.l.length + I.length := by
  unfold emitW
  simp only
  rw [List.length_append]
  have : ∀ (I : List Item) (p : Int), (asm p I).length ≤ I.length := by
    intro I
    induction I with
    | nil => intro p; exact Nat.le_refl _
    | cons x r ih =>
      intro p
      cases x with
      | lab n =>
        show (bif p == 0 then asm n r else txaS.at_ p :: asm n r).length ≤ r.length + 1
        have := ih n
        cases p == 0 <;> simp only [cond_true, cond_false, List.length_cons] <;> omega
      | sym x =>
        show (x.at_ p :: asm 0 r).length ≤ r.length + 1
        have := ih 0
        rw [List.length_cons]; omega
  have := this I w.p
  omega
theorem nameWR (w : Wr) (hn : 0 ≤ w.n ∧ w.n < 2 ^ 40) : Am.Spec Try.prog 38 [wrP] (wrS w) (fun v σ => v = int .i64 (w.n + 1) ∧ σ = wrS (nameW w)) := by
  have e1 : IntKind.i64.wrap (w.n + 1) = w.n + 1 := wrap_ok (by omega) (by omega)
  unfold nameW wrS wrP
  simp only
  rw [← e1]
  refine Spec.body (C := cx [] 14) fits (fn := Try.f38) Try.func38 rfl (by decide) (by decide) (gI ?_)
  repeat' (first | (refine C_r ?_; (conv => whnf); first | refine fR ?_) | fail)
  all_goals first | exact ⟨rfl, rfl⟩ | trace_state
theorem putR (w : Wr) (x : Sym) (hl : w.l.length < 2 ^ 30) : Am.Spec Try.prog 39 [wrP, symV x] (wrS w) (fun v σ => v = .tup [] ∧ σ = wrS (emitW w [.sym x])) := by
  have g1 : (emitW w [.sym x]).l.map Sym.row = w.l.map Sym.row ++ [[D.sc (.int .i64 w.p), .sc (.int .i64 x.t), .sc (.int .i64 x.f), .sc (.int .i64 x.code), .sc (.int .u32 x.k)]] := by
    show (w.l ++ [x.at_ w.p]).map Sym.row = _
    rw [List.map_append]; rfl
  have g2 : wrS (emitW w [.sym x]) = [.var [.arr 1 0 (w.l.map Sym.row ++ [[D.sc (.int .i64 w.p), .sc (.int .i64 x.t), .sc (.int .i64 x.f), .sc (.int .i64 x.code), .sc (.int .u32 x.k)]]).length, .d (.sc (.int .i64 w.n)), .d (.sc (.int .i64 0))], .arr 0 false 5 (w.l.map Sym.row ++ [[D.sc (.int .i64 w.p), .sc (.int .i64 x.t), .sc (.int .i64 x.f), .sc (.int .i64 x.code), .sc (.int .u32 x.k)]])] := by
    unfold wrS
    rw [g1]; rfl
  rw [g2]
  unfold wrS wrP
  refine Spec.body (C := cx [] 22) fits (fn := Try.f39) Try.func39 rfl (by decide) (by decide) (gI ?_)
  repeat' (first | ((first | refine C_r ?_ | refine R_r ?_); (conv => whnf); first | refine C_o ?_ | refine fR ?_) | refine A_d ?_ | fail)
  all_goals first | exact ⟨rfl, rfl⟩ | trace_state
theorem hereR (w : Wr) (lab : Int) (hl : w.l.length < 2 ^ 30) : Am.Spec Try.prog 41 [wrP, int .i64 lab] (wrS w) (fun v σ => v = .tup [] ∧ σ = wrS (emitW w [.lab lab])) := by
  have c1 := putR w txaS hl
  cases h : w.p == 0 with
  | true =>
    have h2 : (!(w.p == 0)) = false := by rw [h]; rfl
    have g : emitW w [.lab lab] = ⟨w.l, w.n, lab⟩ := by
      unfold emitW
      show (⟨w.l ++ (bif w.p == 0 then [] else _), w.n, lab⟩ : Wr) = _
      rw [h, cond_true, List.append_nil]
    rw [g]
    unfold wrS wrP
    refine Spec.body (C := cx [] 16) fits (fn := Try.f41) Try.func41 rfl (by decide) (by decide) (gI ?_)
    repeat' (first | ((first | refine C_r ?_ | refine O_r ?_); (conv => whnf); first | (refine ⟨fun hb => ?_, fun hb => ?_⟩ <;> try exact no_way) | refine fR ?_) | fail)
    all_goals first | exact ⟨rfl, rfl⟩ | trace_state
  | false =>
    have h2 : (!(w.p == 0)) = true := by rw [h]; rfl
    have g : emitW w [.lab lab] = ⟨(emitW w [.sym txaS]).l, (emitW w [.sym txaS]).n, lab⟩ := by
      unfold emitW
      show (⟨w.l ++ (bif w.p == 0 then [] else [txaS.at_ w.p]), w.n, lab⟩ : Wr) = _
      rw [h]; rfl
    rw [g]
    generalize emitW w [.sym txaS] = w2 at *
    unfold wrS wrP at *
    refine Spec.body (C := cx [] 16) fits (fn := Try.f41) Try.func41 rfl (by decide) (by decide) (gI ?_)
    repeat' (first | ((first | refine C_r ?_ | refine O_r ?_); (conv => whnf); first | (refine ⟨fun hb => ?_, fun hb => ?_⟩ <;> try exact no_way) | refine B_o ?_ | refine fR ?_) | refine fun k => WL.crpU [0, 1] (wrS w) _ _ c1 (oW ?_ _) | fail)
    all_goals first | exact ⟨rfl, rfl⟩ | trace_state
end Go.Proofs.Ytcplpllbinilmaa
/- The writer of code: halves, clauses. -/
namespace Go.Proofs.Ytcplpllbinilmaa
open Go Go.Am Go.Proofs
attribute [local irreducible] W WL DL WO RoundEnd
set_option maxRecDepth 10000
set_option maxHeartbeats 4000000
set_option linter.unusedVariables false
set_option linter.unusedSimpArgs false
theorem test_emit (w : Wr) (h : Half) (yes no : Int) : emitW (emitW (emitW w [.sym (ldS (offF h))]) (maskI h)) [.sym (jmpS h yes no)] = emitW w (testI h yes no) := by
  rw [emit_app, emit_app]; rfl
theorem testK (w w1 wm w2 w3 : Wr) (arg op mask value : Int) (high : Bool) (yes no t f c k : Int)
    (hk : k = IntKind.u32.wrap (bif high then IntKind.i64.wrap (IntKind.i64.wrap (16 + IntKind.i64.wrap (8 * arg)) + 4) else IntKind.i64.wrap (16 + IntKind.i64.wrap (8 * arg))))
    (hop : (op = 1 ∧ c = 21 ∧ t = yes ∧ f = no) ∨ (op = 2 ∧ c = 21 ∧ t = no ∧ f = yes) ∨ (op = 3 ∧ c = 53 ∧ t = no ∧ f = yes) ∨ (op = 4 ∧ c = 37 ∧ t = no ∧ f = yes) ∨ (op = 5 ∧ c = 37 ∧ t = yes ∧ f = no) ∨ (op = 6 ∧ c = 53 ∧ t = yes ∧ f = no))
    (c1 : Am.Spec Try.prog 39 [wrP, symV ⟨0, 0, 0, 32, k⟩] (wrS w) (fun v σ => v = .tup [] ∧ σ = wrS w1))
    (c2 : Am.Spec Try.prog 39 [wrP, symV ⟨0, 0, 0, 84, mask⟩] (wrS w1) (fun v σ => v = .tup [] ∧ σ = wrS wm))
    (c3 : Am.Spec Try.prog 39 [wrP, symV ⟨0, t, f, c, value⟩] (wrS w2) (fun v σ => v = .tup [] ∧ σ = wrS w3))
    (hm : ((mask == 4294967295) = true ∧ w2 = w1) ∨ ((mask == 4294967295) = false ∧ w2 = wm)) :
    Am.Spec Try.prog 79 [wrP, .agg ((⟨arg, op, high, mask, value⟩ : Half).row.map .d), int .i64 yes, int .i64 no] (wrS w) (fun v σ => v = .tup [] ∧ σ = wrS w3) := by
  subst hk
  unfold wrP at *
  rcases hm with ⟨hmk, rfl⟩ | ⟨hmk, rfl⟩
  · have q1 : (!(mask == 4294967295)) = false := by rw [hmk]; rfl
    clear hmk
    cases high with
    | true =>
      rcases hop with ⟨rfl, rfl, rfl, rfl⟩ | ⟨rfl, rfl, rfl, rfl⟩ | ⟨rfl, rfl, rfl, rfl⟩ | ⟨rfl, rfl, rfl, rfl⟩ | ⟨rfl, rfl, rfl, rfl⟩ | ⟨rfl, rfl, rfl, rfl⟩
      all_goals (unfold wrS at *)
      all_goals refine Spec.body (C := cx [] 69) fits (fn := Try.f79) Try.func79 rfl (by decide) (by decide) (gI ?_)
      all_goals repeat' (first | ((first | refine C_r ?_ | refine O_r ?_); (conv => whnf); first | (refine ⟨fun hb => ?_, fun hb => ?_⟩ <;> try exact no_way) | refine B_o ?_ | refine fR ?_) | refine fun k => WL.crpU [0, 1] [.var [.arr 1 0 (w.l.map Sym.row).length, .d (.sc (.int .i64 w.n)), .d (.sc (.int .i64 w.p))], .arr 0 false 5 (w.l.map Sym.row)] _ _ c1 (oW ?_ _) | refine fun k => WL.crpU [0, 1] [.var [.arr 1 0 (w2.l.map Sym.row).length, .d (.sc (.int .i64 w2.n)), .d (.sc (.int .i64 w2.p))], .arr 0 false 5 (w2.l.map Sym.row)] _ _ c3 (oW ?_ _) | fail)
      all_goals exact ⟨rfl, rfl⟩
    | false =>
      rcases hop with ⟨rfl, rfl, rfl, rfl⟩ | ⟨rfl, rfl, rfl, rfl⟩ | ⟨rfl, rfl, rfl, rfl⟩ | ⟨rfl, rfl, rfl, rfl⟩ | ⟨rfl, rfl, rfl, rfl⟩ | ⟨rfl, rfl, rfl, rfl⟩
      all_goals (unfold wrS at *)
      all_goals refine Spec.body (C := cx [] 69) fits (fn := Try.f79) Try.func79 rfl (by decide) (by decide) (gI ?_)
      all_goals repeat' (first | ((first | refine C_r ?_ | refine O_r ?_); (conv => whnf); first | (refine ⟨fun hb => ?_, fun hb => ?_⟩ <;> try exact no_way) | refine B_o ?_ | refine fR ?_) | refine fun k => WL.crpU [0, 1] [.var [.arr 1 0 (w.l.map Sym.row).length, .d (.sc (.int .i64 w.n)), .d (.sc (.int .i64 w.p))], .arr 0 false 5 (w.l.map Sym.row)] _ _ c1 (oW ?_ _) | refine fun k => WL.crpU [0, 1] [.var [.arr 1 0 (w2.l.map Sym.row).length, .d (.sc (.int .i64 w2.n)), .d (.sc (.int .i64 w2.p))], .arr 0 false 5 (w2.l.map Sym.row)] _ _ c3 (oW ?_ _) | fail)
      all_goals exact ⟨rfl, rfl⟩
  · have q1 : (!(mask == 4294967295)) = true := by rw [hmk]; rfl
    clear hmk
    cases high with
    | true =>
      rcases hop with ⟨rfl, rfl, rfl, rfl⟩ | ⟨rfl, rfl, rfl, rfl⟩ | ⟨rfl, rfl, rfl, rfl⟩ | ⟨rfl, rfl, rfl, rfl⟩ | ⟨rfl, rfl, rfl, rfl⟩ | ⟨rfl, rfl, rfl, rfl⟩
      all_goals (unfold wrS at *)
      all_goals refine Spec.body (C := cx [] 69) fits (fn := Try.f79) Try.func79 rfl (by decide) (by decide) (gI ?_)
      all_goals repeat' (first | ((first | refine C_r ?_ | refine O_r ?_); (conv => whnf); first | (refine ⟨fun hb => ?_, fun hb => ?_⟩ <;> try exact no_way) | refine B_o ?_ | refine fR ?_) | refine fun k => WL.crpU [0, 1] [.var [.arr 1 0 (w.l.map Sym.row).length, .d (.sc (.int .i64 w.n)), .d (.sc (.int .i64 w.p))], .arr 0 false 5 (w.l.map Sym.row)] _ _ c1 (oW ?_ _) | refine fun k => WL.crpU [0, 1] [.var [.arr 1 0 (w1.l.map Sym.row).length, .d (.sc (.int .i64 w1.n)), .d (.sc (.int .i64 w1.p))], .arr 0 false 5 (w1.l.map Sym.row)] _ _ c2 (oW ?_ _) | refine fun k => WL.crpU [0, 1] [.var [.arr 1 0 (w2.l.map Sym.row).length, .d (.sc (.int .i64 w2.n)), .d (.sc (.int .i64 w2.p))], .arr 0 false 5 (w2.l.map Sym.row)] _ _ c3 (oW ?_ _) | fail)
      all_goals exact ⟨rfl, rfl⟩
    | false =>
      rcases hop with ⟨rfl, rfl, rfl, rfl⟩ | ⟨rfl, rfl, rfl, rfl⟩ | ⟨rfl, rfl, rfl, rfl⟩ | ⟨rfl, rfl, rfl, rfl⟩ | ⟨rfl, rfl, rfl, rfl⟩ | ⟨rfl, rfl, rfl, rfl⟩
      all_goals (unfold wrS at *)
      all_goals refine Spec.body (C := cx [] 69) fits (fn := Try.f79) Try.func79 rfl (by decide) (by decide) (gI ?_)
      all_goals repeat' (first | ((first | refine C_r ?_ | refine O_r ?_); (conv => whnf); first | (refine ⟨fun hb => ?_, fun hb => ?_⟩ <;> try exact no_way) | refine B_o ?_ | refine fR ?_) | refine fun k => WL.crpU [0, 1] [.var [.arr 1 0 (w.l.map Sym.row).length, .d (.sc (.int .i64 w.n)), .d (.sc (.int .i64 w.p))], .arr 0 false 5 (w.l.map Sym.row)] _ _ c1 (oW ?_ _) | refine fun k => WL.crpU [0, 1] [.var [.arr 1 0 (w1.l.map Sym.row).length, .d (.sc (.int .i64 w1.n)), .d (.sc (.int .i64 w1.p))], .arr 0 false 5 (w1.l.map Sym.row)] _ _ c2 (oW ?_ _) | refine fun k => WL.crpU [0, 1] [.var [.arr 1 0 (w2.l.map Sym.row).length, .d (.sc (.int .i64 w2.n)), .d (.sc (.int .i64 w2.p))], .arr 0 false 5 (w2.l.map Sym.row)] _ _ c3 (oW ?_ _) | fail)
      all_goals exact ⟨rfl, rfl⟩
theorem testR (w : Wr) (h : Half) (yes no : Int) (hl : w.l.length + 3 < 2 ^ 30) (hf : h.fit) : Am.Spec Try.prog 79 [wrP, .agg (h.row.map .d), int .i64 yes, int .i64 no] (wrS w) (fun v σ => v = .tup [] ∧ σ = wrS (emitW w (testI h yes no))) := by
  obtain ⟨⟨a1, a2⟩, ⟨o1, o2⟩, _, _⟩ := hf
  have hl1 := emit_len w [.sym (ldS (offF h))]
  have hl2 := emit_len (emitW w [.sym (ldS (offF h))]) (maskI h)
  have hml : (maskI h).length ≤ 1 := by unfold maskI; cases h.mask == 4294967295 <;> simp
  simp only [List.length_cons, List.length_nil] at hl1
  have c1 := putR w (ldS (offF h)) (by omega)
  have c2 := putR (emitW w [.sym (ldS (offF h))]) (andS h.mask) (by omega)
  have c3 := putR (emitW (emitW w [.sym (ldS (offF h))]) (maskI h)) (jmpS h yes no) (by omega)
  rw [test_emit] at c3
  have hoff : offF h = IntKind.u32.wrap (bif h.high then IntKind.i64.wrap (IntKind.i64.wrap (16 + IntKind.i64.wrap (8 * h.arg)) + 4) else IntKind.i64.wrap (16 + IntKind.i64.wrap (8 * h.arg))) := by
    unfold offF
    have e1 : IntKind.i64.wrap (8 * h.arg) = 8 * h.arg := wrap_ok (by omega) (by omega)
    have e2 : IntKind.i64.wrap (16 + 8 * h.arg) = 16 + 8 * h.arg := wrap_ok (by omega) (by omega)
    have e3 : IntKind.i64.wrap (16 + 8 * h.arg + 4) = 20 + 8 * h.arg := by rw [wrap_ok (by omega) (by omega)]; omega
    rw [e1, e2, e3]
    cases h.high with
    | true => simp only [cond_true]; rw [wrap_u32 (by omega) (by omega)]
    | false => simp only [cond_false]; rw [wrap_u32 (by omega) (by omega)]
  refine testK w _ _ _ _ h.arg h.op h.mask h.value h.high yes no (bif swapF h.op then no else yes) (bif swapF h.op then yes else no) (codeF h.op) (offF h) hoff ?_ c1 c2 c3 ?_
  · have hop : h.op = 1 ∨ h.op = 2 ∨ h.op = 3 ∨ h.op = 4 ∨ h.op = 5 ∨ h.op = 6 := by omega
    rcases hop with hop | hop | hop | hop | hop | hop <;> rw [hop]
    · exact .inl ⟨rfl, rfl, rfl, rfl⟩
    · exact .inr (.inl ⟨rfl, rfl, rfl, rfl⟩)
    · exact .inr (.inr (.inl ⟨rfl, rfl, rfl, rfl⟩))
    · exact .inr (.inr (.inr (.inl ⟨rfl, rfl, rfl, rfl⟩)))
    · exact .inr (.inr (.inr (.inr (.inl ⟨rfl, rfl, rfl, rfl⟩))))
    · exact .inr (.inr (.inr (.inr (.inr ⟨rfl, rfl, rfl, rfl⟩))))
  · unfold maskI
    cases hm : h.mask == 4294967295 with
    | true => exact .inl ⟨rfl, emit_nil _⟩
    | false => exact .inr ⟨rfl, rfl⟩
end Go.Proofs.Ytcplpllbinilmaa
/- The writer of code: ends, clauses. -/
namespace Go.Proofs.Ytcplpllbinilmaa
open Go Go.Am Go.Proofs
attribute [local irreducible] W WL DL WO RoundEnd
set_option maxRecDepth 10000
set_option maxHeartbeats 4000000
set_option linter.unusedVariables false
set_option linter.unusedSimpArgs false
/-- an action's number -/
def actK (a : Act) : Int := (actN a.kind a.data).getD 0
theorem retR (w : Wr) (a : Act) (hl : w.l.length < 2 ^ 30) : Am.Spec Try.prog 40 [wrP, .agg (a.row.map .d)] (wrS w) (fun v σ => v = .tup [] ∧ σ = wrS (emitW w [.sym (retS (actK a))])) := by
  have c1 := actR a.kind a.data
  have c2 := putR w (retS (actK a)) hl
  unfold actV valV at c1
  unfold actK at *
  generalize actN a.kind a.data = o at *
  generalize emitW w _ = w2 at *
  unfold retS at c2
  unfold wrS wrP at *
  refine Spec.body (C := cx [] 15) fits (fn := Try.f40) Try.func40 rfl (by decide) (by decide) (gI ?_)
  repeat' (first | ((first | refine C_r ?_ | refine O_r ?_); (conv => whnf); first | (refine ⟨fun hb => ?_, fun hb => ?_⟩ <;> try exact no_way) | refine B_o ?_ | refine fR ?_) | refine C_l (c1) ?_ | refine fun k => WL.crpU [0, 1] [.var [.arr 1 0 (w.l.map Sym.row).length, .d (.sc (.int .i64 w.n)), .d (.sc (.int .i64 w.p))], .arr 0 false 5 (w.l.map Sym.row)] _ _ c2 (oW ?_ _) | fail)
  all_goals first | exact ⟨rfl, rfl⟩ | trace_state
theorem clauseJa (w : Wr) (yes no next : Int) (hl : w.l.length + 4 < 2 ^ 30) (hy : (!(yes == 0)) = true) : Am.Spec Try.prog 75 [wrP, lst Half.row [], int .i64 yes, int .i64 no, int .i64 next] (wrS w) (fun v σ => v = .tup [] ∧ σ = wrS (emitW w [.sym ⟨0, yes, 0, 5, 0⟩])) := by
  have c0 := putR w ⟨0, yes, 0, 5, 0⟩ (by omega)
  generalize emitW w [.sym ⟨0, yes, 0, 5, 0⟩] = wF at *
  unfold wrS wrP at *
  refine Spec.body (C := cx [] 54) fits (fn := Try.f75) Try.func75 rfl (by decide) (by decide) (gI ?_)
  repeat' (first | ((first | refine C_r ?_ | refine O_r ?_); (conv => whnf); first | (refine ⟨fun hb => ?_, fun hb => ?_⟩ <;> try exact no_way) | refine A_o ?_ | refine B_o ?_) | refine fun k => WL.crpU [0, 1] [.var [.arr 1 0 (w.l.map Sym.row).length, .d (.sc (.int .i64 w.n)), .d (.sc (.int .i64 w.p))], .arr 0 false 5 (w.l.map Sym.row)] _ _ c0 (oW ?_ _) | fail)
  refine wLoop [24, 25] 2 1 ?_
  refine wR (gI ?_)
  repeat' (first | ((first | refine C_r ?_ | refine O_r ?_); (conv => whnf); first | (refine ⟨fun hb => ?_, fun hb => ?_⟩ <;> try exact no_way) | refine fR ?_) | fail)
  all_goals first | exact ⟨rfl, rfl⟩ | trace_state
theorem clauseH (w : Wr) (l : List Half) (yes no next : Int) (hl : w.l.length + 3 * l.length + 4 < 2 ^ 30) (hf : ∀ h ∈ l, h.fit) (hc : (((l.map Half.row).length : Int) == 0) = true → (!(yes == 0)) = false) : Am.Spec Try.prog 75 [wrP, lst Half.row l, int .i64 yes, int .i64 no, int .i64 next] (wrS w) (fun v σ => v = .tup [] ∧ σ = wrS (emitW w (halvesI yes no next l))) := by
  generalize hwF : emitW w (halvesI yes no next l) = wF
  have ct := fun (w : Wr) (h : Half) (yes no : Int) (hl : w.l.length + 3 < 2 ^ 30) (hf : h.fit) => testR w h yes no hl hf
  have key0 : ∀ (rest done : List Half) (w' : Wr), True := fun _ _ _ => trivial
  unfold wrP at *
  have hgo : ∀ b : Bool, (((l.map Half.row).length : Int) == 0) = b → Am.Spec Try.prog 75 [.one (.ptr 0 0), lst Half.row l, int .i64 yes, int .i64 no, int .i64 next] (wrS w) (fun v σ => v = .tup [] ∧ σ = wrS wF) := by
    intro b hb
    have hq : b = true → (!(yes == 0)) = false := fun h => hc (by rw [hb, h])
    cases b with
    | true =>
      have hq := hq rfl
      have hle : l = [] := by
        rw [beq_iff_eq, List.length_map] at hb
        exact List.length_eq_zero_iff.1 (by omega)
      subst hle
      have : w = wF := by rw [← hwF]; exact (emit_nil _).symm
      subst this
      clear ct hc hwF
      unfold wrS
      refine Spec.body (C := cx [] 54) fits (fn := Try.f75) Try.func75 rfl (by decide) (by decide) (gI ?_)
      repeat' (first | ((first | refine C_r ?_ | refine O_r ?_); (conv => whnf); first | (refine ⟨fun hb => ?_, fun hb => ?_⟩ <;> try exact no_way) | refine A_o ?_) | fail)
      refine wLoop [24, 25] 2 1 ?_
      refine wR (gI ?_)
      repeat' (first | ((first | refine C_r ?_ | refine O_r ?_); (conv => whnf); first | (refine ⟨fun hb => ?_, fun hb => ?_⟩ <;> try exact no_way) | refine fR ?_) | fail)
      all_goals first | exact ⟨rfl, rfl⟩ | trace_state
    | false =>
      clear hq hc
      have hz : (l.map Half.row).length = l.length := by simp
      unfold wrS
      refine Spec.body (C := cx [] 54) fits (fn := Try.f75) Try.func75 rfl (by decide) (by decide) (gI ?_)
      repeat' (first | ((first | refine C_r ?_ | refine O_r ?_); (conv => whnf); first | (refine ⟨fun hb => ?_, fun hb => ?_⟩ <;> try exact no_way) | refine A_o ?_) | fail)
      refine wLoop [0, 1, 2, 3, 4, 23, 24, 25] 2 (l.length + 1) ?_
      refine (fun key => key l [] w rfl hwF (by omega) :
        (∀ (rest done : List Half) (w' : Wr), l = done ++ rest → emitW w' (halvesI yes no next rest) = wF → w'.l.length + 3 * rest.length < 2 ^ 30 - 4 →
        WR2 _ _ _ _ _ (rest.length + 1) [(0, .one (.ptr 0 0)), (1, lst Half.row l), (2, int .i64 yes), (3, int .i64 no), (4, int .i64 next), (23, lst Half.row l), (24, int .i64 (l.map Half.row).length), (25, int .i64 done.length)] [.var [.arr 1 0 (w'.l.map Sym.row).length, .d (.sc (.int .i64 w'.n)), .d (.sc (.int .i64 w'.p))], .arr 0 false 5 (w'.l.map Sym.row)]) → _) ?_
      have hlb : l.length < 2 ^ 30 := by omega
      clear hwF hl
      intro rest
      induction rest with
      | nil =>
        intro done w' g1 g2 g3
        have g2 : w' = wF := by rw [← g2]; exact (emit_nil _).symm
        subst g2
        have hlen : l.length = done.length := by rw [g1]; simp
        have q : decide ((done.length : Int) < ((l.map Half.row).length : Int)) = false := by rw [decide_eq_false_iff_not, hz]; omega
        clear ct
        refine wR (gI ?_)
        repeat' (first | ((first | refine C_r ?_ | refine O_r ?_); (conv => whnf); first | (refine ⟨fun hb => ?_, fun hb => ?_⟩ <;> try exact no_way) | refine fR ?_) | fail)
        all_goals first | exact ⟨rfl, rfl⟩ | trace_state
      | cons h rest ih =>
        intro done w' g1 g2 g3
        have hx : l[done.length]? = some h := by rw [g1]; simp
        have hx : l[((done.length : Int)).toNat]? = some h := hx
        have hlen : l.length = done.length + (rest.length + 1) := by rw [g1]; simp
        have hfh := hf h (by rw [g1]; simp)
        have q : decide ((done.length : Int) < ((l.map Half.row).length : Int)) = true := by rw [decide_eq_true_eq, hz]; omega
        have e7 : IntKind.i64.wrap ((done.length : Int) + 1) = ((done.length + 1 : Nat) : Int) := by rw [wrap_ok (by omega) (by omega)]; omega
        have e8 : IntKind.i64.wrap (((l.map Half.row).length : Int) - 1) = (l.length : Int) - 1 := by rw [hz, wrap_okz (by omega) (by omega)]
        simp only [List.length_cons] at g3
        cases rest with
        | nil =>
          have q2 : decide ((done.length : Int) < IntKind.i64.wrap (((l.map Half.row).length : Int) - 1)) = false := by rw [e8, decide_eq_false_iff_not]; simp only [List.length_nil] at hlen; omega
          have g2 : emitW w' (testI h yes (bif no == next then 0 else no)) = wF := g2
          have g := ih (done ++ [h]) wF (by rw [g1]; simp) (emit_nil _) (by rw [← g2]; have := emit_len w' (testI h yes (bif no == next then 0 else no)); have ht : (testI h yes (bif no == next then 0 else no)).length ≤ 3 := (by show (maskI h ++ [_]).length + 1 ≤ 3; unfold maskI; cases h.mask == 4294967295 <;> simp); simp only [List.length_nil] at g3 ⊢; omega)
          rw [show (done ++ [h]).length = done.length + 1 from by simp] at g
          cases hn : no == next with
          | true =>
            rw [hn, cond_true] at g2
            have c1 := ct w' h yes 0 (by omega) hfh
            rw [g2] at c1
            clear ih ct hf g2 g1 hb
            unfold wrS at c1
            refine wR (gI ?_)
            repeat' (first | ((first | refine C_r ?_ | refine O_r ?_); (conv => whnf); first | (refine ⟨fun hb => ?_, fun hb => ?_⟩ <;> try exact no_way) | refine B_o ?_ | refine R_o ?_) | refine fun k => WL.crpU [0, 1] [.var [.arr 1 0 (w'.l.map Sym.row).length, .d (.sc (.int .i64 w'.n)), .d (.sc (.int .i64 w'.p))], .arr 0 false 5 (w'.l.map Sym.row)] _ _ c1 (oW ?_ _) | refine X_l ?_ | fail)
            all_goals first | (rw [e7]; exact rE g) | trace_state
          | false =>
            rw [hn, cond_false] at g2
            have c1 := ct w' h yes no (by omega) hfh
            rw [g2] at c1
            clear ih ct hf g2 g1 hb
            unfold wrS at c1
            refine wR (gI ?_)
            repeat' (first | ((first | refine C_r ?_ | refine O_r ?_); (conv => whnf); first | (refine ⟨fun hb => ?_, fun hb => ?_⟩ <;> try exact no_way) | refine B_o ?_ | refine R_o ?_) | refine fun k => WL.crpU [0, 1] [.var [.arr 1 0 (w'.l.map Sym.row).length, .d (.sc (.int .i64 w'.n)), .d (.sc (.int .i64 w'.p))], .arr 0 false 5 (w'.l.map Sym.row)] _ _ c1 (oW ?_ _) | refine X_l ?_ | fail)
            all_goals first | (rw [e7]; exact rE g) | trace_state
        | cons h2 rest =>
          have q2 : decide ((done.length : Int) < IntKind.i64.wrap (((l.map Half.row).length : Int) - 1)) = true := by rw [e8, decide_eq_true_eq]; simp only [List.length_cons] at hlen; omega
          have ht : (testI h 0 no).length ≤ 3 := by show (maskI h ++ [_]).length + 1 ≤ 3; unfold maskI; cases h.mask == 4294967295 <;> simp
          have hel := emit_len w' (testI h 0 no)
          have g := ih (done ++ [h]) (emitW w' (testI h 0 no)) (by rw [g1]; simp) (by rw [emit_app]; exact g2) (by omega)
          rw [show (done ++ [h]).length = done.length + 1 from by simp] at g
          have c1 := ct w' h 0 no (by omega) hfh
          clear ih ct hf g2 g1 hel ht hb
          generalize emitW w' (testI h 0 no) = w2 at *
          unfold wrS at c1
          refine wR (gI ?_)
          repeat' (first | ((first | refine C_r ?_ | refine O_r ?_); (conv => whnf); first | (refine ⟨fun hb => ?_, fun hb => ?_⟩ <;> try exact no_way) | refine B_o ?_ | refine R_o ?_) | refine fun k => WL.crpU [0, 1] [.var [.arr 1 0 (w'.l.map Sym.row).length, .d (.sc (.int .i64 w'.n)), .d (.sc (.int .i64 w'.p))], .arr 0 false 5 (w'.l.map Sym.row)] _ _ c1 (oW ?_ _) | refine X_l ?_ | fail)
          all_goals first | (rw [e7]; exact rE g) | trace_state
  exact hgo _ rfl
theorem clauseR (w : Wr) (l : List Half) (yes no next : Int) (hl : w.l.length + 3 * l.length + 4 < 2 ^ 30) (hf : ∀ h ∈ l, h.fit) : Am.Spec Try.prog 75 [wrP, lst Half.row l, int .i64 yes, int .i64 no, int .i64 next] (wrS w) (fun v σ => v = .tup [] ∧ σ = wrS (emitW w (clauseI l yes no next))) := by
  unfold clauseI
  cases l with
  | nil =>
    cases hy : yes == 0 with
    | true =>
      exact clauseH w [] yes no next hl hf (fun _ => by rw [hy]; rfl)
    | false => exact clauseJa w yes no next (by omega) (by rw [hy]; rfl)
  | cons h r => exact clauseH w (h :: r) yes no next hl hf (fun h => by simp at h; omega)
end Go.Proofs.Ytcplpllbinilmaa
/- The writer of code: steps. -/
namespace Go.Proofs.Ytcplpllbinilmaa
open Go Go.Am Go.Proofs
attribute [local irreducible] W WL DL WO RoundEnd
set_option maxRecDepth 10000
set_option maxHeartbeats 4000000
set_option linter.unusedVariables false
set_option linter.unusedSimpArgs false
def emitN (w : Wr) (I : List Item) (k : Int) : Wr := ⟨w.l ++ asm w.p I, w.n + k, pend w.p I⟩
theorem emitN_app (w : Wr) (a b : List Item) (i j : Int) : emitN (emitN w a i) b j = emitN w (a ++ b) (i + j) := by
  unfold emitN
  simp only
  rw [asm_app, pend_app, List.append_assoc, Int.add_assoc]
theorem emitN_nil (w : Wr) : emitN w [] 0 = w := by
  obtain ⟨l, n, p⟩ := w
  show (⟨l ++ [], n + 0, p⟩ : Wr) = ⟨l, n, p⟩
  rw [List.append_nil, Int.add_zero]
theorem emitW_N (w : Wr) (I : List Item) : emitW w I = emitN w I 0 := by
  unfold emitW emitN
  rw [Int.add_zero]
theorem nameW_N (w : Wr) : nameW w = emitN w [] 1 := by
  unfold nameW emitN
  show (⟨w.l, w.n + 1, w.p⟩ : Wr) = ⟨w.l ++ [], w.n + 1, w.p⟩
  rw [List.append_nil]
theorem emitN_len (w : Wr) (I : List Item) (k : Int) : (emitN w I k).l.length ≤ w.l.length + I.length := emit_len w I
theorem clause_le (l : List Half) (yes no next : Int) : (clauseI l yes no next).length ≤ 3 * l.length + 1 := by
  have hh : ∀ (l : List Half), (halvesI yes no next l).length ≤ 3 * l.length := by
    intro l
    induction l with
    | nil => exact Nat.le_refl _
    | cons h r ih =>
      have ht : ∀ yes no : Int, (testI h yes no).length ≤ 3 := by
        intro yes no
        show (maskI h ++ [_]).length + 1 ≤ 3
        unfold maskI
        cases h.mask == 4294967295 <;> simp
      cases r with
      | nil => exact ht _ _
      | cons g r =>
        show (testI h 0 no ++ halvesI yes no next (g :: r)).length ≤ _
        have := ht 0 no
        rw [List.length_append, List.length_cons]; omega
  unfold clauseI
  have := hh l
  rw [List.length_append]
  cases (l.isEmpty && !(yes == 0)) <;> simp only [cond_true, cond_false, List.length_cons, List.length_nil] <;> omega
theorem stepEmpty (w : Wr) (a : Act) (hl : w.l.length + 4 < 2 ^ 30) (hn : 0 ≤ w.n ∧ w.n + 4 < 2 ^ 40) : Am.Spec Try.prog 68 [wrP, .agg ((⟨[], a⟩ : Stp).row.map .d)] (wrS w) (fun v σ => v = .tup [] ∧ σ = wrS (emitN w [.lab (w.n + 2)] 2)) := by
  have c1 := nameWR w ⟨hn.1, by omega⟩
  have c2 := nameWR (nameW w) ⟨by show 0 ≤ w.n + 1; omega, by show w.n + 1 < 2 ^ 40; omega⟩
  have e2 : (nameW w).n + 1 = w.n + 2 := by show w.n + 1 + 1 = w.n + 2; omega
  have c3 := hereR (nameW (nameW w)) (w.n + 2) (by show w.l.length < 2 ^ 30; omega)
  have e3 : emitW (nameW (nameW w)) [.lab (w.n + 2)] = emitN w [.lab (w.n + 2)] 2 := by
    rw [nameW_N, nameW_N, emitW_N, emitN_app, emitN_app]; rfl
  rw [e2] at c2
  rw [e3] at c3
  generalize emitN w [.lab (w.n + 2)] 2 = wF at *
  generalize nameW (nameW w) = w2 at *
  generalize nameW w = w1 at *
  clear e2 e3
  unfold wrS wrP at *
  refine Spec.body (C := cx [] 57) fits (fn := Try.f68) Try.func68 rfl (by decide) (by decide) (gI ?_)
  repeat' (first | ((first | refine C_r ?_ | refine O_r ?_); (conv => whnf); first | refine A_o ?_ | refine B_o ?_) | refine fun k => WL.crpU [0, 1] [.var [.arr 1 0 (w.l.map Sym.row).length, .d (.sc (.int .i64 w.n)), .d (.sc (.int .i64 w.p))], .arr 0 false 5 (w.l.map Sym.row)] _ _ c1 (oW ?_ _) | refine fun k => WL.crpU [0, 1] [.var [.arr 1 0 (w1.l.map Sym.row).length, .d (.sc (.int .i64 w1.n)), .d (.sc (.int .i64 w1.p))], .arr 0 false 5 (w1.l.map Sym.row)] _ _ c2 (oW ?_ _) | fail)
  refine wLoop [0, 3, 4, 5, 14, 15, 16] 3 1 ?_
  refine wR (gI ?_)
  repeat' (first | ((first | refine C_r ?_ | refine O_r ?_); (conv => whnf); first | (refine ⟨fun hb => ?_, fun hb => ?_⟩ <;> try exact no_way) | refine A_o ?_ | refine B_o ?_ | refine fR ?_) | refine fun k => WL.crpU [0, 1] [.var [.arr 1 0 (w2.l.map Sym.row).length, .d (.sc (.int .i64 w2.n)), .d (.sc (.int .i64 w2.p))], .arr 0 false 5 (w2.l.map Sym.row)] _ _ c3 (oW ?_ _) | fail)
  all_goals first | exact ⟨rfl, rfl⟩ | trace_state
theorem stepFull (w : Wr) (cl : List (List Half)) (a : Act) (hne : cl ≠ []) (hl : w.l.length + 3 * clausesC cl + 8 < 2 ^ 30) (hn : 0 ≤ w.n ∧ w.n + 4 + cl.length < 2 ^ 40) (hf : ∀ c ∈ cl, ∀ h ∈ c, h.fit) :
    Am.Spec Try.prog 68 [wrP, .agg ((⟨cl, a⟩ : Stp).row.map .d)] (wrS w) (fun v σ => v = .tup [] ∧ σ = wrS (emitN w (stepI actK ⟨cl, a⟩ w.n) (stepN ⟨cl, a⟩))) := by
  have hlc : ∀ l : List (List Half), l.length ≤ clausesC l := by
    intro l
    induction l with
    | nil => exact Nat.le_refl _
    | cons c r ih => rw [clausesC, List.length_cons]; omega
  have hcl := hlc cl
  have hz : (cl.map crow).length = cl.length := by simp
  have c1 := nameWR w ⟨hn.1, by omega⟩
  have c2 := nameWR (nameW w) ⟨by show 0 ≤ w.n + 1; omega, by show w.n + 1 < 2 ^ 40; omega⟩
  have e2 : (nameW w).n + 1 = w.n + 2 := by show w.n + 1 + 1 = w.n + 2; omega
  rw [e2] at c2
  have hw2 : nameW (nameW w) = emitN w [] 2 := by rw [nameW_N, nameW_N, emitN_app]; rfl
  rw [hw2] at c2
  have hw2n : (emitN w [] 2).n = w.n + 2 := rfl
  have hw2l : (emitN w [] 2).l.length = w.l.length := by show (w.l ++ []).length = _; rw [List.append_nil]
  have htail : emitN w (stepI actK ⟨cl, a⟩ w.n) (stepN ⟨cl, a⟩) = emitN (emitN (emitN w [] 2) (clausesI (w.n + 1) (w.n + 2) (w.n + 2) cl) cl.length) [.lab (w.n + 1), .sym (retS (actK a)), .lab (w.n + 2)] 0 := by
    rw [emitN_app, emitN_app]
    unfold stepI stepN
    cases cl with
    | nil => exact absurd rfl hne
    | cons c r =>
      rw [Int.add_zero]; rfl
  rw [htail]
  have hcle : (clausesI (w.n + 1) (w.n + 2) (w.n + 2) cl).length ≤ 3 * clausesC cl := by
    have : ∀ (l : List (List Half)) (c : Int), (clausesI (w.n + 1) (w.n + 2) c l).length ≤ 3 * clausesC l := by
      intro l
      induction l with
      | nil => intro c; exact Nat.le_refl _
      | cons x r ih =>
        intro c
        cases r with
        | nil =>
          have := clause_le x 0 (w.n + 2) 0
          show (clauseI x 0 (w.n + 2) 0).length ≤ 3 * (1 + x.length + 0)
          omega
        | cons y r =>
          have := clause_le x (w.n + 1) (c + 1) (c + 1)
          have := ih (c + 1)
          show (clauseI x (w.n + 1) (c + 1) (c + 1) ++ .lab (c + 1) :: clausesI (w.n + 1) (w.n + 2) (c + 1) (y :: r)).length ≤ 3 * (1 + x.length + clausesC (y :: r))
          rw [List.length_append, List.length_cons]; omega
    exact this cl _
  have hCl := emitN_len (emitN w [] 2) (clausesI (w.n + 1) (w.n + 2) (w.n + 2) cl) cl.length
  generalize hwC : emitN (emitN w [] 2) (clausesI (w.n + 1) (w.n + 2) (w.n + 2) cl) cl.length = wC at *
  have t1 := hereR wC (w.n + 1) (by omega)
  have t1l := emit_len wC [.lab (w.n + 1)]
  simp only [List.length_cons, List.length_nil] at t1l
  have t2 := retR (emitW wC [.lab (w.n + 1)]) a (by omega)
  have t2l := emit_len (emitW wC [.lab (w.n + 1)]) [.sym (retS (actK a))]
  simp only [List.length_cons, List.length_nil] at t2l
  have t3 := hereR (emitW (emitW wC [.lab (w.n + 1)]) [.sym (retS (actK a))]) (w.n + 2) (by omega)
  have e3 : emitW (emitW (emitW wC [.lab (w.n + 1)]) [.sym (retS (actK a))]) [.lab (w.n + 2)] = emitN wC [.lab (w.n + 1), .sym (retS (actK a)), .lab (w.n + 2)] 0 := by
    rw [emit_app, emit_app, emitW_N]; rfl
  rw [e3] at t3
  generalize emitN wC [.lab (w.n + 1), .sym (retS (actK a)), .lab (w.n + 2)] 0 = wF at *
  generalize emitW (emitW wC [.lab (w.n + 1)]) [.sym (retS (actK a))] = wT at *
  generalize emitW wC [.lab (w.n + 1)] = wU at *
  clear e2 hw2 htail e3 t1l t2l hCl hcle hlc
  generalize emitN w [] 2 = w2 at *
  generalize nameW w = w1 at *
  have cn := fun (w : Wr) (h : 0 ≤ w.n ∧ w.n < 2 ^ 40) => nameWR w h
  have cc := fun (w : Wr) (l : List Half) (yes no next : Int) (h1 : w.l.length + 3 * l.length + 4 < 2 ^ 30) (h2 : ∀ h ∈ l, h.fit) => clauseR w l yes no next h1 h2
  have ch := fun (w : Wr) (n : Int) (h : w.l.length < 2 ^ 30) => hereR w n h
  unfold wrP at *
  unfold wrS at c1 c2 t1 t2 t3 ⊢
  refine Spec.body (C := cx [] 57) fits (fn := Try.f68) Try.func68 rfl (by decide) (by decide) (gI ?_)
  repeat' (first | ((first | refine C_r ?_ | refine O_r ?_); (conv => whnf); first | refine A_o ?_ | refine B_o ?_) | refine fun k => WL.crpU [0, 1] [.var [.arr 1 0 (w.l.map Sym.row).length, .d (.sc (.int .i64 w.n)), .d (.sc (.int .i64 w.p))], .arr 0 false 5 (w.l.map Sym.row)] _ _ c1 (oW ?_ _) | refine fun k => WL.crpU [0, 1] [.var [.arr 1 0 (w1.l.map Sym.row).length, .d (.sc (.int .i64 w1.n)), .d (.sc (.int .i64 w1.p))], .arr 0 false 5 (w1.l.map Sym.row)] _ _ c2 (oW ?_ _) | fail)
  clear c1 c2
  have hb1 : w.n + 1 < 2 ^ 40 := by omega
  have hw2l : w2.l.length + 3 * clausesC cl + 8 < 2 ^ 30 := by omega
  refine wLoop [0, 3, 4, 5, 14, 15, 16] 3 (cl.length + 1) ?_
  refine (fun key => key cl [] w2 rfl (fun h => absurd h hne) (by rw [hw2n]; exact hwC) (by omega) (by omega) (by omega) :
    (∀ (rest done : List (List Half)) (w' : Wr), cl = done ++ rest → (rest ≠ []) → emitN w' (clausesI (w.n + 1) (w.n + 2) w'.n rest) rest.length = wC → w'.l.length + 3 * clausesC rest + 4 < 2 ^ 30 → 0 ≤ w'.n → w'.n + rest.length + 1 < 2 ^ 40 →
    WR2 _ _ _ _ _ (rest.length + 1) [(0, .one (.ptr 0 0)), (3, .one (.ptr 2 0)), (4, int .i64 (w.n + 1)), (5, int .i64 (w.n + 2)), (14, lst crow cl), (15, int .i64 (cl.map crow).length), (16, int .i64 done.length)] [.var [.arr 1 0 (w'.l.map Sym.row).length, .d (.sc (.int .i64 w'.n)), .d (.sc (.int .i64 w'.p))], .arr 0 false 5 (w'.l.map Sym.row), .var [.d (.list (cl.map crow)), .d (.sc (.int .i64 a.kind)), .d (.sc (.int .i64 a.data))]]) → _) ?_
  clear hwC
  have hclb : cl.length < 2 ^ 30 := by omega
  have qpos : decide (((cl.map crow).length : Int) > 0) = true := by
    rw [decide_eq_true_eq, hz]
    cases cl with
    | nil => exact absurd rfl hne
    | cons c r => simp only [List.length_cons]; omega
  have e8 : IntKind.i64.wrap (((cl.map crow).length : Int) - 1) = (cl.length : Int) - 1 := by rw [hz, wrap_okz (by omega) (by omega)]
  clear hw2l hw2n hl hcl
  intro rest
  induction rest with
  | nil => intro done w' _ h; exact absurd rfl h
  | cons l rest ih =>
    intro done w' g1 _ g2 g3 g4 g5
    have hx : cl[done.length]? = some l := by rw [g1]; simp
    have hx : cl[((done.length : Int)).toNat]? = some l := hx
    have hlen : cl.length = done.length + (rest.length + 1) := by rw [g1]; simp
    have hfh := hf l (by rw [g1]; simp)
    have q : decide ((done.length : Int) < ((cl.map crow).length : Int)) = true := by rw [decide_eq_true_eq, hz]; omega
    have e7 : IntKind.i64.wrap ((done.length : Int) + 1) = ((done.length + 1 : Nat) : Int) := by rw [wrap_ok (by omega) (by omega)]; omega
    simp only [List.length_cons] at g5
    rw [clausesC] at g3
    have c1 := cn w' ⟨g4, by omega⟩
    have hnl : (nameW w').l = w'.l := rfl
    cases rest with
    | nil =>
      have q2 : ((done.length : Int) == IntKind.i64.wrap (((cl.map crow).length : Int) - 1)) = true := by rw [e8, beq_iff_eq]; simp only [List.length_nil] at hlen; omega
      have c2 := cc (nameW w') l 0 (w.n + 2) 0 (by rw [hnl]; omega) hfh
      have e9 : emitW (nameW w') (clauseI l 0 (w.n + 2) 0) = wC := by
        rw [← g2, nameW_N, emitW_N, emitN_app]; rfl
      rw [e9] at c2
      clear ih cn cc ch e9 g2 hf g1 hnl
      generalize nameW w' = w3 at *
      unfold wrS at c1 c2
      refine wR (gI ?_)
      repeat' (first | ((first | refine C_r ?_ | refine O_r ?_); (conv => whnf); first | (refine ⟨fun hb => ?_, fun hb => ?_⟩ <;> try exact no_way) | refine A_o ?_ | refine B_o ?_ | refine fR ?_) | refine fun k => WL.crpU [0, 1] [.var [.arr 1 0 (w'.l.map Sym.row).length, .d (.sc (.int .i64 w'.n)), .d (.sc (.int .i64 w'.p))], .arr 0 false 5 (w'.l.map Sym.row)] _ _ c1 (oW ?_ _) | refine fun k => WL.crpU [0, 1] [.var [.arr 1 0 (w3.l.map Sym.row).length, .d (.sc (.int .i64 w3.n)), .d (.sc (.int .i64 w3.p))], .arr 0 false 5 (w3.l.map Sym.row)] _ _ c2 (oW ?_ _) | refine fun k => WL.crpU [0, 1] [.var [.arr 1 0 (wC.l.map Sym.row).length, .d (.sc (.int .i64 wC.n)), .d (.sc (.int .i64 wC.p))], .arr 0 false 5 (wC.l.map Sym.row)] _ _ t1 (oW ?_ _) | refine fun k => WL.crpU [0, 1] [.var [.arr 1 0 (wU.l.map Sym.row).length, .d (.sc (.int .i64 wU.n)), .d (.sc (.int .i64 wU.p))], .arr 0 false 5 (wU.l.map Sym.row)] _ _ t2 (oW ?_ _) | refine fun k => WL.crpU [0, 1] [.var [.arr 1 0 (wT.l.map Sym.row).length, .d (.sc (.int .i64 wT.n)), .d (.sc (.int .i64 wT.p))], .arr 0 false 5 (wT.l.map Sym.row)] _ _ t3 (oW ?_ _) | refine X_l ?_ | fail)
      all_goals first | exact ⟨rfl, rfl⟩ | trace_state
    | cons l2 rest =>
      have q2 : ((done.length : Int) == IntKind.i64.wrap (((cl.map crow).length : Int) - 1)) = false := by rw [e8, beq_eq_false_iff_ne]; simp only [List.length_cons] at hlen; omega
      have c2 := cc (nameW w') l (w.n + 1) (w'.n + 1) (w'.n + 1) (by rw [hnl]; omega) hfh
      have hle := clause_le l (w.n + 1) (w'.n + 1) (w'.n + 1)
      have hel := emit_len (nameW w') (clauseI l (w.n + 1) (w'.n + 1) (w'.n + 1))
      rw [hnl] at hel
      have c3 := ch (emitW (nameW w') (clauseI l (w.n + 1) (w'.n + 1) (w'.n + 1))) (w'.n + 1) (by omega)
      have e9 : emitW (emitW (nameW w') (clauseI l (w.n + 1) (w'.n + 1) (w'.n + 1))) [.lab (w'.n + 1)] = emitN w' (clauseI l (w.n + 1) (w'.n + 1) (w'.n + 1) ++ [.lab (w'.n + 1)]) 1 := by
        rw [nameW_N, emitW_N, emitW_N, emitN_app, emitN_app]; rfl
      have hnl2 := emitN_len w' (clauseI l (w.n + 1) (w'.n + 1) (w'.n + 1) ++ [.lab (w'.n + 1)]) 1
      rw [List.length_append] at hnl2
      simp only [List.length_cons, List.length_nil] at hnl2 g5
      have hn2 : (emitN w' (clauseI l (w.n + 1) (w'.n + 1) (w'.n + 1) ++ [.lab (w'.n + 1)]) 1).n = w'.n + 1 := rfl
      have g := ih (done ++ [l]) (emitN w' (clauseI l (w.n + 1) (w'.n + 1) (w'.n + 1) ++ [.lab (w'.n + 1)]) 1) (by rw [g1]; simp) (by simp) (by
        rw [hn2, ← g2, emitN_app]
        have e5 : clauseI l (w.n + 1) (w'.n + 1) (w'.n + 1) ++ [.lab (w'.n + 1)] ++ clausesI (w.n + 1) (w.n + 2) (w'.n + 1) (l2 :: rest) = clausesI (w.n + 1) (w.n + 2) w'.n (l :: l2 :: rest) := by
          rw [List.append_assoc]; rfl
        rw [e5]
        congr 1
        simp only [List.length_cons]; omega) (by omega) (by rw [hn2]; omega) (by rw [hn2]; simp only [List.length_cons]; omega)
      rw [show (done ++ [l]).length = done.length + 1 from by simp] at g
      rw [e9] at c3
      clear ih cn cc ch e9 g2 hf g1 hnl hel hle hnl2 hn2 t1 t2 t3
      generalize emitN w' (clauseI l (w.n + 1) (w'.n + 1) (w'.n + 1) ++ [.lab (w'.n + 1)]) 1 = w5 at *
      generalize emitW (nameW w') (clauseI l (w.n + 1) (w'.n + 1) (w'.n + 1)) = w4 at *
      generalize nameW w' = w3 at *
      unfold wrS at c1 c2 c3
      refine wR (gI ?_)
      repeat' (first | ((first | refine C_r ?_ | refine O_r ?_); (conv => whnf); first | (refine ⟨fun hb => ?_, fun hb => ?_⟩ <;> try exact no_way) | refine B_o ?_ | refine R_o ?_) | refine fun k => WL.crpU [0, 1] [.var [.arr 1 0 (w'.l.map Sym.row).length, .d (.sc (.int .i64 w'.n)), .d (.sc (.int .i64 w'.p))], .arr 0 false 5 (w'.l.map Sym.row)] _ _ c1 (oW ?_ _) | refine fun k => WL.crpU [0, 1] [.var [.arr 1 0 (w3.l.map Sym.row).length, .d (.sc (.int .i64 w3.n)), .d (.sc (.int .i64 w3.p))], .arr 0 false 5 (w3.l.map Sym.row)] _ _ c2 (oW ?_ _) | refine fun k => WL.crpU [0, 1] [.var [.arr 1 0 (w4.l.map Sym.row).length, .d (.sc (.int .i64 w4.n)), .d (.sc (.int .i64 w4.p))], .arr 0 false 5 (w4.l.map Sym.row)] _ _ c3 (oW ?_ _) | refine X_l ?_ | fail)
      all_goals first | (rw [e7]; exact rE g) | trace_state
theorem stepR (w : Wr) (s : Stp) (hl : w.l.length + 3 * clausesC s.clauses + 8 < 2 ^ 30) (hn : 0 ≤ w.n ∧ w.n + 4 + s.clauses.length < 2 ^ 40) (hf : s.fit) :
    Am.Spec Try.prog 68 [wrP, .agg (s.row.map .d)] (wrS w) (fun v σ => v = .tup [] ∧ σ = wrS (emitN w (stepI actK s w.n) (stepN s))) := by
  obtain ⟨cl, a⟩ := s
  cases cl with
  | nil => exact stepEmpty w a (by omega) ⟨hn.1, by simp only [List.length_nil] at hn; omega⟩
  | cons c r => exact stepFull w (c :: r) a (by simp) hl hn hf
end Go.Proofs.Ytcplpllbinilmaa
/- The writer of code: spans, and the search among them. -/
namespace Go.Proofs.Ytcplpllbinilmaa
open Go Go.Am Go.Proofs
attribute [local irreducible] W WL DL WO RoundEnd
set_option maxRecDepth 10000
set_option maxHeartbeats 4000000
set_option linter.unusedVariables false
set_option linter.unusedSimpArgs false
theorem leafR (w : Wr) (x : Span) (hl : w.l.length + 3 * stepsC x.steps + 12 < 2 ^ 30) (hn : 0 ≤ w.n ∧ w.n + stepsN x.steps + 8 < 2 ^ 40) (hsl : x.steps.length < 2 ^ 60) (hf : x.fit) :
    Am.Spec Try.prog 57 [wrP, .agg (x.row.map .d)] (wrS w) (fun v σ => v = .tup [] ∧ σ = wrS (emitN w (leafI actK x w.n) (stepsN x.steps))) := by
  have htail : emitN w (leafI actK x w.n) (stepsN x.steps) = emitW (emitN w (stepsI actK x.steps w.n) (stepsN x.steps)) [.sym (retS (actK x.act))] := by
    rw [emitW_N, emitN_app, Int.add_zero]; rfl
  rw [htail]
  have hle := emitN_len w (stepsI actK x.steps w.n) (stepsN x.steps)
  have hst := steps_len actK x.steps w.n
  have t1 := retR (emitN w (stepsI actK x.steps w.n) (stepsN x.steps)) x.act (by omega)
  generalize hwC : emitN w (stepsI actK x.steps w.n) (stepsN x.steps) = wC at *
  generalize emitW wC _ = wF at *
  have cs := fun (w : Wr) (s : Stp) (h1 : w.l.length + 3 * clausesC s.clauses + 8 < 2 ^ 30) (h2 : 0 ≤ w.n ∧ w.n + 4 + s.clauses.length < 2 ^ 40) (h3 : s.fit) => stepR w s h1 h2 h3
  have hz : (x.steps.map Stp.row).length = x.steps.length := by simp
  obtain ⟨lo, hi, steps, act⟩ := x
  unfold Span.fit at hf
  simp only at *
  clear htail hle hst
  unfold wrP at *
  unfold wrS at t1 ⊢
  refine Spec.body (C := cx [] 21) fits (fn := Try.f57) Try.func57 rfl (by decide) (by decide) (gI ?_)
  repeat' (first | (refine C_r ?_; (conv => whnf); first | refine A_o ?_) | fail)
  refine wLoop [0, 3, 7, 8, 9] 3 (steps.length + 1) ?_
  refine (fun key => key steps [] w rfl hwC (by omega) hn.1 (by omega) :
    (∀ (rest done : List Stp) (w' : Wr), steps = done ++ rest → emitN w' (stepsI actK rest w'.n) (stepsN rest) = wC → w'.l.length + 3 * stepsC rest + 12 < 2 ^ 30 → 0 ≤ w'.n → w'.n + stepsN rest + 8 < 2 ^ 40 →
    WR2 _ _ _ _ _ (rest.length + 1) [(0, .one (.ptr 0 0)), (3, .one (.ptr 2 0)), (7, lst Stp.row steps), (8, int .i64 (steps.map Stp.row).length), (9, int .i64 done.length)] [.var [.arr 1 0 (w'.l.map Sym.row).length, .d (.sc (.int .i64 w'.n)), .d (.sc (.int .i64 w'.p))], .arr 0 false 5 (w'.l.map Sym.row), .var [.d (.sc (.int .u32 lo)), .d (.sc (.int .u32 hi)), .d (.list (steps.map Stp.row)), .d (.sc (.int .i64 act.kind)), .d (.sc (.int .i64 act.data))]]) → _) ?_
  clear hwC hl hn
  intro rest
  induction rest with
  | nil =>
    intro done w' g1 g2 g3 g4 g5
    have g2 : w' = wC := by rw [← g2]; exact (emitN_nil _).symm
    subst g2
    have hlen : steps.length = done.length := by rw [g1]; simp
    have q : decide ((done.length : Int) < ((steps.map Stp.row).length : Int)) = false := by rw [decide_eq_false_iff_not, hz]; omega
    clear cs hf g1
    refine wR (gI ?_)
    repeat' (first | ((first | refine C_r ?_ | refine O_r ?_); (conv => whnf); first | (refine ⟨fun hb => ?_, fun hb => ?_⟩ <;> try exact no_way) | refine A_o ?_ | refine B_o ?_ | refine fR ?_) | refine fun k => WL.crpU [0, 1] [.var [.arr 1 0 (w'.l.map Sym.row).length, .d (.sc (.int .i64 w'.n)), .d (.sc (.int .i64 w'.p))], .arr 0 false 5 (w'.l.map Sym.row)] _ _ t1 (oW ?_ _) | fail)
    all_goals first | exact ⟨rfl, rfl⟩ | trace_state
  | cons s rest ih =>
    intro done w' g1 g2 g3 g4 g5
    have hx : steps[done.length]? = some s := by rw [g1]; simp
    have hx : steps[((done.length : Int)).toNat]? = some s := hx
    have hlen : steps.length = done.length + (rest.length + 1) := by rw [g1]; simp
    have q : decide ((done.length : Int) < ((steps.map Stp.row).length : Int)) = true := by rw [decide_eq_true_eq, hz]; omega
    have e7 : IntKind.i64.wrap ((done.length : Int) + 1) = ((done.length + 1 : Nat) : Int) := by rw [wrap_ok (by omega) (by omega)]; omega
    rw [stepsC] at g3
    rw [stepsN] at g5
    have p1 := stepN_pos s
    have p2 := stepsN_pos rest
    have c1 := cs w' s (by omega) ⟨g4, by unfold stepN at g5; omega⟩ (hf s (by rw [g1]; simp))
    have hle := emitN_len w' (stepI actK s w'.n) (stepN s)
    have hsl2 := step_len actK s w'.n
    have hn2 : (emitN w' (stepI actK s w'.n) (stepN s)).n = w'.n + stepN s := rfl
    have g := ih (done ++ [s]) (emitN w' (stepI actK s w'.n) (stepN s)) (by rw [g1]; simp) (by
      rw [hn2, ← g2, emitN_app]; rfl) (by omega) (by rw [hn2]; omega) (by rw [hn2]; omega)
    rw [show (done ++ [s]).length = done.length + 1 from by simp] at g
    clear ih cs hf g2 g1 hle hsl2 hn2 t1 p1 p2 g5 g3
    generalize emitN w' (stepI actK s w'.n) (stepN s) = w2 at *
    unfold wrS at c1
    refine wR (gI ?_)
    repeat' (first | ((first | refine C_r ?_ | refine O_r ?_); (conv => whnf); first | (refine ⟨fun hb => ?_, fun hb => ?_⟩ <;> try exact no_way) | refine B_o ?_ | refine R_o ?_) | refine fun k => WL.crpU [0, 1] [.var [.arr 1 0 (w'.l.map Sym.row).length, .d (.sc (.int .i64 w'.n)), .d (.sc (.int .i64 w'.p))], .arr 0 false 5 (w'.l.map Sym.row)] _ _ c1 (oW ?_ _) | refine X_l ?_ | fail)
    all_goals first | (rw [e7]; exact rE g) | trace_state
end Go.Proofs.Ytcplpllbinilmaa
/- The writer of code: the search among spans. -/
namespace Go.Proofs.Ytcplpllbinilmaa
open Go Go.Am Go.Proofs
attribute [local irreducible] W WL DL WO RoundEnd
set_option maxRecDepth 10000
set_option maxHeartbeats 4000000
set_option linter.unusedVariables false
set_option linter.unusedSimpArgs false
theorem partsC_len : ∀ l : List Span, l.length ≤ partsC l
  | [] => Nat.le_refl _
  | x :: r => by
    have := partsC_len r
    rw [partsC, List.length_cons]; omega
theorem searchOne (w wF : Wr) (x : Span) (c1 : Am.Spec Try.prog 57 [wrP, .agg (x.row.map .d)] (wrS w) (fun v σ => v = .tup [] ∧ σ = wrS wF)) : Am.Spec Try.prog 42 [wrP, lst Span.row [x]] (wrS w) (fun v σ => v = .tup [] ∧ σ = wrS wF) := by
  have q : ((([x].map Span.row).length : Int) == 1) = true := rfl
  have hx : [x][((0 : Int)).toNat]? = some x := rfl
  unfold wrS wrP at *
  refine Spec.body (C := cx [] 41) fits (fn := Try.f42) Try.func42 rfl (by decide) (by decide) (gI ?_)
  repeat' (first | ((first | refine C_r ?_ | refine O_r ?_); (conv => whnf); first | (refine ⟨fun hb => ?_, fun hb => ?_⟩ <;> try exact no_way) | refine B_o ?_ | refine fR ?_) | refine fun k => WL.crpU [0, 1] [.var [.arr 1 0 (w.l.map Sym.row).length, .d (.sc (.int .i64 w.n)), .d (.sc (.int .i64 w.p))], .arr 0 false 5 (w.l.map Sym.row)] _ _ c1 (oW ?_ _) | refine Q_l ?_ | fail)
  all_goals first | exact ⟨rfl, rfl⟩ | trace_state
theorem searchTwo (w w1 w2 w3 w4 wF : Wr) (l : List Span) (y : Span) (mid : Nat) (hl : 2 ≤ l.length) (hl2 : l.length < 2 ^ 40) (hmid : mid = l.length / 2) (hy : l[mid]? = some y) (n : Int)
    (c1 : Am.Spec Try.prog 38 [wrP] (wrS w) (fun v σ => v = int .i64 n ∧ σ = wrS w1))
    (c2 : Am.Spec Try.prog 39 [wrP, symV ⟨0, n, 0, 53, y.lo⟩] (wrS w1) (fun v σ => v = .tup [] ∧ σ = wrS w2))
    (c3 : Am.Spec Try.prog 42 [wrP, lst Span.row (l.take mid)] (wrS w2) (fun v σ => v = .tup [] ∧ σ = wrS w3))
    (c4 : Am.Spec Try.prog 41 [wrP, int .i64 n] (wrS w3) (fun v σ => v = .tup [] ∧ σ = wrS w4))
    (c5 : Am.Spec Try.prog 42 [wrP, lst Span.row (l.drop mid)] (wrS w4) (fun v σ => v = .tup [] ∧ σ = wrS wF)) :
    Am.Spec Try.prog 42 [wrP, lst Span.row l] (wrS w) (fun v σ => v = .tup [] ∧ σ = wrS wF) := by
  have hz : (l.map Span.row).length = l.length := by simp
  have q : (((l.map Span.row).length : Int) == 1) = false := by rw [beq_eq_false_iff_ne, hz]; omega
  have em : IntKind.i64.wrap (((l.map Span.row).length : Int).tdiv 2) = (mid : Int) := by
    rw [hz, Int.tdiv_eq_ediv_of_nonneg (by omega), wrap_ok (by omega) (by omega)]; omega
  have hx : l[(IntKind.i64.wrap (((l.map Span.row).length : Int).tdiv 2)).toNat]? = some y := by rw [em]; exact hy
  have b0 : 0 ≤ IntKind.i64.wrap (((l.map Span.row).length : Int).tdiv 2) := by rw [em]; omega
  have b1 : IntKind.i64.wrap (((l.map Span.row).length : Int).tdiv 2) ≤ ((l.map Span.row).length : Int) := by rw [em, hz]; omega
  have r1 : ((l.map Span.row).take ((some (IntKind.i64.wrap (((l.map Span.row).length : Int).tdiv 2))).getD ((l.map Span.row).length : Int)).toNat).drop ((none : Option Int).getD 0).toNat = (l.take mid).map Span.row := by
    show ((l.map Span.row).take (IntKind.i64.wrap (((l.map Span.row).length : Int).tdiv 2)).toNat).drop 0 = _
    rw [em, List.drop_zero, Int.toNat_natCast, List.map_take]
  have r2 : ((l.map Span.row).take ((none : Option Int).getD ((l.map Span.row).length : Int)).toNat).drop ((some (IntKind.i64.wrap (((l.map Span.row).length : Int).tdiv 2))).getD 0).toNat = (l.drop mid).map Span.row := by
    show ((l.map Span.row).take (((l.map Span.row).length : Int)).toNat).drop (IntKind.i64.wrap (((l.map Span.row).length : Int).tdiv 2)).toNat = _
    rw [em, Int.toNat_natCast, Int.toNat_natCast, List.take_length, List.map_drop]
  clear hy hmid em
  unfold wrS wrP at *
  refine Spec.body (C := cx [] 41) fits (fn := Try.f42) Try.func42 rfl (by decide) (by decide) (gI ?_)
  repeat' (first | ((first | refine C_r ?_ | refine O_r ?_); (conv => whnf); first | (refine ⟨fun hb => ?_, fun hb => ?_⟩ <;> try exact no_way) | refine B_o ?_ | refine fR ?_) | refine fun k => WL.crpU [0, 1] [.var [.arr 1 0 (w.l.map Sym.row).length, .d (.sc (.int .i64 w.n)), .d (.sc (.int .i64 w.p))], .arr 0 false 5 (w.l.map Sym.row)] _ _ c1 (oW ?_ _) | refine fun k => WL.crpU [0, 1] [.var [.arr 1 0 (w1.l.map Sym.row).length, .d (.sc (.int .i64 w1.n)), .d (.sc (.int .i64 w1.p))], .arr 0 false 5 (w1.l.map Sym.row)] _ _ c2 (oW ?_ _) | refine fun k => WL.crpU [0, 1] [.var [.arr 1 0 (w2.l.map Sym.row).length, .d (.sc (.int .i64 w2.n)), .d (.sc (.int .i64 w2.p))], .arr 0 false 5 (w2.l.map Sym.row)] _ _ c3 (oW ?_ _) | refine fun k => WL.crpU [0, 1] [.var [.arr 1 0 (w3.l.map Sym.row).length, .d (.sc (.int .i64 w3.n)), .d (.sc (.int .i64 w3.p))], .arr 0 false 5 (w3.l.map Sym.row)] _ _ c4 (oW ?_ _) | refine fun k => WL.crpU [0, 1] [.var [.arr 1 0 (w4.l.map Sym.row).length, .d (.sc (.int .i64 w4.n)), .d (.sc (.int .i64 w4.p))], .arr 0 false 5 (w4.l.map Sym.row)] _ _ c5 (oW ?_ _) | refine K_l (a := none) (b := some (IntKind.i64.wrap (((l.map Span.row).length : Int).tdiv 2))) ?_ (h1 := Int.le_refl 0) (h2 := b0) (h3 := b1) (rows' := (l.take mid).map Span.row) (hr := r1) | refine K_l (a := some (IntKind.i64.wrap (((l.map Span.row).length : Int).tdiv 2))) (b := none) ?_ (h1 := b0) (h2 := b1) (h3 := Int.le_refl _) (rows' := (l.drop mid).map Span.row) (hr := r2) | refine X_l ?_ | fail)
  all_goals first | exact ⟨rfl, rfl⟩ | trace_state
theorem searchR : ∀ (k : Nat) (l : List Span) (w : Wr), l ≠ [] → l.length ≤ k → w.l.length + 3 * partsC l + 16 < 2 ^ 30 → 0 ≤ w.n → w.n + spansN l + 16 < 2 ^ 40 → (∀ x ∈ l, x.fit) → (∀ x ∈ l, x.steps.length < 2 ^ 60) →
    Am.Spec Try.prog 42 [wrP, lst Span.row l] (wrS w) (fun v σ => v = .tup [] ∧ σ = wrS (emitN w (searchI actK k l w.n) (spansN l - 1)))
  | 0, l, w, hl, hk, _, _, _, _, _ => by
    cases l with
    | nil => exact absurd rfl hl
    | cons => simp at hk
  | k + 1, [], w, hl, _, _, _, _, _, _ => absurd rfl hl
  | k + 1, [x], w, _, _, h1, h2, h3, hf, hs => by
    rw [partsC, partsC] at h1
    rw [spansN, spansN] at h3
    have c1 := leafR w x (by omega) ⟨h2, by omega⟩ (hs x (by simp)) (hf x (by simp))
    have e : stepsN x.steps = spansN [x] - 1 := by rw [spansN, spansN]; omega
    rw [e] at c1
    exact searchOne w _ x c1
  | k + 1, y :: z :: r, w, _, hk, h1, h2, h3, hf, hs => by
    generalize hl : y :: z :: r = l at *
    have hlen : 2 ≤ l.length := by rw [← hl]; simp
    have e : searchI actK (k + 1) l w.n = .sym ⟨0, w.n + 1, 0, 53, loAt l (l.length / 2)⟩ :: (searchI actK k (l.take (l.length / 2)) (w.n + 1) ++ .lab (w.n + 1) :: searchI actK k (l.drop (l.length / 2)) (w.n + spansN (l.take (l.length / 2)))) := by rw [← hl]; rfl
    have hp : partsC l = partsC (l.take (l.length / 2)) + partsC (l.drop (l.length / 2)) := by rw [← partsC_app, List.take_append_drop]
    have hsp : spansN l = spansN (l.take (l.length / 2)) + spansN (l.drop (l.length / 2)) := by rw [← spansN_app, List.take_append_drop]
    have p1 := spansN_pos (l.take (l.length / 2))
    have p2 := spansN_pos (l.drop (l.length / 2))
    have p3 := partsC_len l
    have p4 := partsC_len (l.take (l.length / 2))
    have p5 := partsC_len (l.drop (l.length / 2))
    rw [List.length_take] at p1 p4
    rw [List.length_drop] at p2 p5
    obtain ⟨m, hm⟩ : ∃ m, l[l.length / 2]? = some m := ⟨_, List.getElem?_eq_getElem (by omega)⟩
    have hlo : loAt l (l.length / 2) = m.lo := by unfold loAt; rw [hm]; rfl
    have c1 := nameWR w ⟨h2, by omega⟩
    have c2 := putR (nameW w) ⟨0, w.n + 1, 0, 53, m.lo⟩ (by show w.l.length < 2 ^ 30; omega)
    have hw2n : (emitW (nameW w) [.sym ⟨0, w.n + 1, 0, 53, m.lo⟩]).n = w.n + 1 := rfl
    have hw2l : (emitW (nameW w) [.sym ⟨0, w.n + 1, 0, 53, m.lo⟩]).l.length ≤ w.l.length + 1 := emit_len (nameW w) _
    have hti : (searchI actK k (l.take (l.length / 2)) (w.n + 1)).length + 2 ≤ 3 * partsC (l.take (l.length / 2)) := (search_len actK k (l.take (l.length / 2)) (w.n + 1)).2 (by intro h; have := congrArg List.length h; rw [List.length_take, List.length_nil] at this; omega)
    have c3 := searchR k (l.take (l.length / 2)) (emitW (nameW w) [.sym ⟨0, w.n + 1, 0, 53, m.lo⟩]) (by intro h; have := congrArg List.length h; rw [List.length_take, List.length_nil] at this; omega) (by rw [List.length_take]; omega) (by omega) (by rw [hw2n]; omega) (by rw [hw2n]; omega) (fun x hx => hf x (List.mem_of_mem_take hx)) (fun x hx => hs x (List.mem_of_mem_take hx))
    rw [hw2n] at c3
    have hw3l := emitN_len (emitW (nameW w) [.sym ⟨0, w.n + 1, 0, 53, m.lo⟩]) (searchI actK k (l.take (l.length / 2)) (w.n + 1)) (spansN (l.take (l.length / 2)) - 1)
    have hw3n : (emitN (emitW (nameW w) [.sym ⟨0, w.n + 1, 0, 53, m.lo⟩]) (searchI actK k (l.take (l.length / 2)) (w.n + 1)) (spansN (l.take (l.length / 2)) - 1)).n = w.n + 1 + (spansN (l.take (l.length / 2)) - 1) := rfl
    generalize hw3 : emitN (emitW (nameW w) [.sym ⟨0, w.n + 1, 0, 53, m.lo⟩]) (searchI actK k (l.take (l.length / 2)) (w.n + 1)) (spansN (l.take (l.length / 2)) - 1) = w3 at *
    have c4 := hereR w3 (w.n + 1) (by omega)
    have hw4l := emit_len w3 [.lab (w.n + 1)]
    simp only [List.length_cons, List.length_nil] at hw4l
    have hw4n : (emitW w3 [.lab (w.n + 1)]).n = w.n + spansN (l.take (l.length / 2)) := by show w3.n = _; rw [hw3n]; omega
    have c5 := searchR k (l.drop (l.length / 2)) (emitW w3 [.lab (w.n + 1)]) (by intro h; have := congrArg List.length h; rw [List.length_drop, List.length_nil] at this; omega) (by rw [List.length_drop]; omega) (by omega) (by rw [hw4n]; omega) (by rw [hw4n]; omega) (fun x hx => hf x (List.mem_of_mem_drop hx)) (fun x hx => hs x (List.mem_of_mem_drop hx))
    rw [hw4n] at c5
    have efin : emitN (emitW w3 [.lab (w.n + 1)]) (searchI actK k (l.drop (l.length / 2)) (w.n + spansN (l.take (l.length / 2)))) (spansN (l.drop (l.length / 2)) - 1) = emitN w (searchI actK (k + 1) l w.n) (spansN l - 1) := by
      rw [← hw3, e, hlo, nameW_N, emitW_N, emitW_N, emitN_app, emitN_app, emitN_app, emitN_app, hsp]
      congr 1
      all_goals first | omega | simp
    rw [efin] at c5
    exact searchTwo w _ _ w3 _ _ l m (l.length / 2) hlen (by omega) rfl hm (w.n + 1) c1 c2 c3 c4 c5
end Go.Proofs.Ytcplpllbinilmaa
/- The writer of code: all of it. -/
namespace Go.Proofs.Ytcplpllbinilmaa
open Go Go.Am Go.Proofs
attribute [local irreducible] W WL DL WO RoundEnd
set_option maxRecDepth 10000
set_option maxHeartbeats 4000000
set_option linter.unusedVariables false
set_option linter.unusedSimpArgs false
theorem Cn_r {C : Cx} {Q : Am.Ex → Env → St → Prop} (n : Nat) {c : Code} {s : List Fr} {e : Env} {σ : St} (h : (runs C n (.code c s e σ)).holds C Q) (hT : C.T.fits C.P := by exact fits) (hmx : C.P.follows .mixedOrders = true := by exact mixed) : W C c e σ (un C s Q) := runs_sound (p := .code c s e σ) hT hmx n h
theorem On_r {C : Cx} {Q : Am.Ex → Env → St → Prop} (n : Nat) {all l : List Oper} {s : List Fr} {e : Env} {σ : St} (h : (runs C n (.ops all l s e σ)).holds C Q) (hT : C.T.fits C.P := by exact fits) (hmx : C.P.follows .mixedOrders = true := by exact mixed) : WLk C all l e σ fun e σ => un C s Q .normal e σ := runs_sound (p := .ops all l s e σ) hT hmx n h
theorem codeNo (arch : Int) (l : List Span) (hl : l.length < 2 ^ 60) (hs : ∀ x ∈ l, x.small) (h : spansOk 0 l = false) : Comp Try.prog 18 [int .u32 arch, lst Span.row l] (.tup [.one (.d (.list [])), .one (.d (.sc (.int .i64 1)))]) := by
  have c1 := rightSpR l hl hs
  rw [h] at c1
  refine Spec.body (C := cx [] 39) fits (fn := Try.f18) Try.func18 rfl (by decide) (by decide) (gI ?_)
  repeat' (first | ((first | refine C_r ?_ | refine O_r ?_); (conv => whnf); first | (refine ⟨fun hb => ?_, fun hb => ?_⟩ <;> try exact no_way) | refine B_o ?_ | refine fR ?_) | refine C_l (c1) ?_ | fail)
  all_goals exact ⟨rfl, rfl⟩
theorem codeK (arch : Int) (l : List Span) (w1 w2 w3 w4 w5 w6 w7 : Wr) (kn : Int)
    (c0 : Comp Try.prog 37 [lst Span.row l] (bool true))
    (c1 : Am.Spec Try.prog 38 [wrP] (wrS ⟨[], 0, 0⟩) (fun v σ => v = int .i64 kn ∧ σ = wrS w1))
    (c2 : Am.Spec Try.prog 39 [wrP, symV ⟨0, 0, 0, 32, 4⟩] (wrS w1) (fun v σ => v = .tup [] ∧ σ = wrS w2))
    (c3 : Am.Spec Try.prog 39 [wrP, symV ⟨0, kn, 0, 21, arch⟩] (wrS w2) (fun v σ => v = .tup [] ∧ σ = wrS w3))
    (c4 : Am.Spec Try.prog 40 [wrP, .agg ((⟨1, 0⟩ : Act).row.map .d)] (wrS w3) (fun v σ => v = .tup [] ∧ σ = wrS w4))
    (c5 : Am.Spec Try.prog 41 [wrP, int .i64 kn] (wrS w4) (fun v σ => v = .tup [] ∧ σ = wrS w5))
    (c6 : Am.Spec Try.prog 39 [wrP, symV ⟨0, 0, 0, 32, 0⟩] (wrS w5) (fun v σ => v = .tup [] ∧ σ = wrS w6))
    (c7 : Am.Spec Try.prog 42 [wrP, lst Span.row l] (wrS w6) (fun v σ => v = .tup [] ∧ σ = wrS w7)) :
    Comp Try.prog 18 [int .u32 arch, lst Span.row l] (.tup [.one (.d (.list (w7.l.map Sym.row))), .one (.d (.sc (.int .i64 0)))]) := by
  have c1' : Am.Spec Try.prog 38 [wrP] [.var [.arr 1 0 0, .d (.sc (.int .i64 0)), .d (.sc (.int .i64 0))], .arr 0 false 5 []] (fun v σ => v = int .i64 kn ∧ σ = wrS w1) := c1
  clear c1
  unfold wrS wrP at *
  refine Spec.body (C := cx [] 39) fits (fn := Try.f18) Try.func18 rfl (by decide) (by decide) (gI ?_)
  repeat' (first | (first | (refine On_r 1 ?_; (conv => whnf); refine A_o ?_; refine gA 0 0 false 5 ?_) | (refine On_r 2 ?_; (conv => whnf); refine A_o ?_; refine gA 0 0 false 5 ?_) | (refine On_r 3 ?_; (conv => whnf); refine A_o ?_; refine gA 0 0 false 5 ?_) | (refine On_r 4 ?_; (conv => whnf); refine A_o ?_; refine gA 0 0 false 5 ?_) | (refine On_r 5 ?_; (conv => whnf); refine A_o ?_; refine gA 0 0 false 5 ?_) | (refine On_r 6 ?_; (conv => whnf); refine A_o ?_; refine gA 0 0 false 5 ?_) | (refine On_r 7 ?_; (conv => whnf); refine A_o ?_; refine gA 0 0 false 5 ?_) | (refine On_r 8 ?_; (conv => whnf); refine A_o ?_; refine gA 0 0 false 5 ?_) | (refine On_r 9 ?_; (conv => whnf); refine A_o ?_; refine gA 0 0 false 5 ?_) | (refine On_r 10 ?_; (conv => whnf); refine A_o ?_; refine gA 0 0 false 5 ?_) | (refine On_r 11 ?_; (conv => whnf); refine A_o ?_; refine gA 0 0 false 5 ?_) | (refine On_r 12 ?_; (conv => whnf); refine A_o ?_; refine gA 0 0 false 5 ?_) | (refine On_r 13 ?_; (conv => whnf); refine A_o ?_; refine gA 0 0 false 5 ?_) | (refine On_r 14 ?_; (conv => whnf); refine A_o ?_; refine gA 0 0 false 5 ?_) | (refine On_r 15 ?_; (conv => whnf); refine A_o ?_; refine gA 0 0 false 5 ?_) | (refine On_r 16 ?_; (conv => whnf); refine A_o ?_; refine gA 0 0 false 5 ?_) | (refine On_r 17 ?_; (conv => whnf); refine A_o ?_; refine gA 0 0 false 5 ?_) | (refine On_r 18 ?_; (conv => whnf); refine A_o ?_; refine gA 0 0 false 5 ?_) | (refine On_r 19 ?_; (conv => whnf); refine A_o ?_; refine gA 0 0 false 5 ?_) | (refine On_r 20 ?_; (conv => whnf); refine A_o ?_; refine gA 0 0 false 5 ?_) | (refine On_r 21 ?_; (conv => whnf); refine A_o ?_; refine gA 0 0 false 5 ?_) | (refine On_r 22 ?_; (conv => whnf); refine A_o ?_; refine gA 0 0 false 5 ?_) | (refine On_r 23 ?_; (conv => whnf); refine A_o ?_; refine gA 0 0 false 5 ?_)) | ((first | refine C_r ?_ | refine O_r ?_); (conv => whnf); first | (refine ⟨fun hb => ?_, fun hb => ?_⟩ <;> try exact no_way) | refine B_o ?_ | refine fR ?_) | refine C_l (c0) ?_ | refine fun k => WL.crpU [0, 1] [.var [.arr 1 0 0, .d (.sc (.int .i64 0)), .d (.sc (.int .i64 0))], .arr 0 false 5 []] _ _ c1' (oW ?_ _) | refine fun k => WL.crpU [0, 1] [.var [.arr 1 0 (w1.l.map Sym.row).length, .d (.sc (.int .i64 w1.n)), .d (.sc (.int .i64 w1.p))], .arr 0 false 5 (w1.l.map Sym.row)] _ _ c2 (oW ?_ _) | refine fun k => WL.crpU [0, 1] [.var [.arr 1 0 (w2.l.map Sym.row).length, .d (.sc (.int .i64 w2.n)), .d (.sc (.int .i64 w2.p))], .arr 0 false 5 (w2.l.map Sym.row)] _ _ c3 (oW ?_ _) | refine fun k => WL.crpU [0, 1] [.var [.arr 1 0 (w3.l.map Sym.row).length, .d (.sc (.int .i64 w3.n)), .d (.sc (.int .i64 w3.p))], .arr 0 false 5 (w3.l.map Sym.row)] _ _ c4 (oW ?_ _) | refine fun k => WL.crpU [0, 1] [.var [.arr 1 0 (w4.l.map Sym.row).length, .d (.sc (.int .i64 w4.n)), .d (.sc (.int .i64 w4.p))], .arr 0 false 5 (w4.l.map Sym.row)] _ _ c5 (oW ?_ _) | refine fun k => WL.crpU [0, 1] [.var [.arr 1 0 (w5.l.map Sym.row).length, .d (.sc (.int .i64 w5.n)), .d (.sc (.int .i64 w5.p))], .arr 0 false 5 (w5.l.map Sym.row)] _ _ c6 (oW ?_ _) | refine fun k => WL.crpU [0, 1] [.var [.arr 1 0 (w6.l.map Sym.row).length, .d (.sc (.int .i64 w6.n)), .d (.sc (.int .i64 w6.p))], .arr 0 false 5 (w6.l.map Sym.row)] _ _ c7 (oW ?_ _) | fail)
  all_goals first | exact ⟨rfl, rfl⟩ | trace_state
theorem codeYes (arch : Int) (l : List Span) (hl : l.length < 2 ^ 60) (hs : ∀ x ∈ l, x.small) (h : spansOk 0 l = true) (hne : l ≠ []) (hf : ∀ x ∈ l, x.fit) (hsz : 3 * partsC l + 32 < 2 ^ 30) (hsn : spansN l + 32 < 2 ^ 40) :
    Comp Try.prog 18 [int .u32 arch, lst Span.row l] (.tup [.one (.d (.list ((asm 0 (codeI actK arch (actK ⟨1, 0⟩) l)).map Sym.row))), .one (.d (.sc (.int .i64 0)))]) := by
  have c0 := rightSpR l hl hs
  rw [h] at c0
  have c1 := nameWR ⟨[], 0, 0⟩ ⟨by decide, by decide⟩
  have e1 : nameW ⟨[], 0, 0⟩ = ⟨[], 1, 0⟩ := rfl
  rw [e1] at c1
  have c2 := putR ⟨[], 1, 0⟩ (ldS 4) (by decide)
  have c3 := putR (emitW ⟨[], 1, 0⟩ [.sym (ldS 4)]) ⟨0, 1, 0, 21, arch⟩ (by show 1 < 2 ^ 30; decide)
  rw [emit_app] at c3
  have c4 := retR (emitW ⟨[], 1, 0⟩ ([.sym (ldS 4)] ++ [.sym ⟨0, 1, 0, 21, arch⟩])) ⟨1, 0⟩ (by show 2 < 2 ^ 30; decide)
  rw [emit_app] at c4
  have c5 := hereR (emitW ⟨[], 1, 0⟩ ([.sym (ldS 4)] ++ [.sym ⟨0, 1, 0, 21, arch⟩] ++ [.sym (retS (actK ⟨1, 0⟩))])) 1 (by show 3 < 2 ^ 30; decide)
  rw [emit_app] at c5
  have c6 := putR (emitW ⟨[], 1, 0⟩ ([.sym (ldS 4)] ++ [.sym ⟨0, 1, 0, 21, arch⟩] ++ [.sym (retS (actK ⟨1, 0⟩))] ++ [.lab 1])) (ldS 0) (by show 3 < 2 ^ 30; decide)
  rw [emit_app] at c6
  have c7 := searchR l.length l (emitW ⟨[], 1, 0⟩ ([.sym (ldS 4)] ++ [.sym ⟨0, 1, 0, 21, arch⟩] ++ [.sym (retS (actK ⟨1, 0⟩))] ++ [.lab 1] ++ [.sym (ldS 0)])) hne (Nat.le_refl _) (by show 4 + 3 * partsC l + 16 < 2 ^ 30; omega) (by show (0 : Int) ≤ 1; decide) (by show (1 : Int) + spansN l + 16 < 2 ^ 40; omega) hf (fun x hx => (hs x hx).1.1)
  have := codeK arch l _ _ _ _ _ _ _ 1 c0 c1 c2 c3 c4 c5 c6 c7
  exact this
end Go.Proofs.Ytcplpllbinilmaa
