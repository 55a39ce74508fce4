/- The document's checker: what is stored ahead of each instruction. -/
import Derived.Test.YtcplpllbinilmaaChk1
set_option linter.unusedVariables false
set_option linter.unusedSimpArgs false
namespace Go.Proofs.Ytcplpllbinilmaa
open Go Go.Am Go.Proofs
attribute [local irreducible] W WL DL WO RoundEnd
set_option maxRecDepth 10000
set_option maxHeartbeats 4000000
set_option linter.unusedVariables false
set_option linter.unusedSimpArgs false
def fillS : Nat → Nat → List Int → List Int
  | 0, _, out => out
  | c + 1, i, out => fillS c (i + 1) (out.set i 65535)
theorem fill_len : ∀ (c i : Nat) (out : List Int), (fillS c i out).length = out.length
  | 0, _, _ => rfl
  | c + 1, i, out => by rw [fillS, fill_len c]; simp
def andI (a b : Int) : Int := IntKind.i64.wrap ↑(BitVec.ofInt IntKind.i64.bits a &&& BitVec.ofInt IntKind.i64.bits b).toNat
def andAt (out : List Int) (n : Nat) (v : Int) : List Int := out.set n (andI (getI out n) v)
def stoS (out : List Int) (i : Nat) (x : Ins) : List Int :=
  bif endsF x.code then out
  else bif x.code == 5 then andAt out (i + 1 + x.k.toNat) (getI out i)
  else bif isJumpF x.code then andAt (andAt out (i + 1 + x.jt.toNat) (getI out i)) (i + 1 + x.jf.toNat) (getI out i)
  else andAt out (i + 1) (getI out i)
def stoF : List Ins → Nat → List Int → List Int
  | [], _, out => out
  | x :: r, i, out => stoF r (i + 1) (stoS out i x)
theorem and_len (out : List Int) (n : Nat) (v : Int) : (andAt out n v).length = out.length := by unfold andAt; simp
theorem sto_len (out : List Int) (i : Nat) (x : Ins) : (stoS out i x).length = out.length := by
  unfold stoS
  cases endsF x.code with
  | true => rfl
  | false =>
  cases x.code == 5 with
  | true => simp only [cond_true, cond_false, and_len]
  | false =>
  cases isJumpF x.code <;> simp only [cond_true, cond_false, and_len]
theorem row_at {out : List Int} {n : Nat} (h : n < out.length) : (out.map i64row)[n]? = some (i64row (getI out n)) := by
  have := getI_row (pl := out) (n := (n : Int)) (by omega) (by omega)
  exact this
theorem storedR (l : List Ins) (hl : l.length < 2 ^ 30) (hok : ∀ (i : Nat) (x : Ins), l[i]? = some x → OkI l.length i x) :
    Comp Try.prog 35 [lst Ins.row l, int .i64 l.length] (lst i64row (stoF l 0 ((fillS (l.length + 1) 0 (List.replicate (l.length + 1) 0)).set 0 0))) := by
  have hw : IntKind.i64.wrap ((l.length : Int) + 1) = ((l.length + 1 : Nat) : Int) := by rw [wrap_ok (by omega) (by omega)]; omega
  have e1 : List.replicate (IntKind.i64.wrap ((l.length : Int) + 1)).toNat [D.sc (Value.int IntKind.i64 0)] = (List.replicate (l.length + 1) (0 : Int)).map i64row := by
    rw [hw, Int.toNat_natCast, List.map_replicate]; rfl
  have e3 : ((List.replicate (l.length + 1) (0 : Int)).map i64row).length = l.length + 1 := by simp
  generalize hfb : stoF l 0 ((fillS (l.length + 1) 0 (List.replicate (l.length + 1) 0)).set 0 0) = fb
  generalize hfl : fillS (l.length + 1) 0 (List.replicate (l.length + 1) 0) = fl at hfb
  have b0 : 0 ≤ IntKind.i64.wrap ((l.length : Int) + 1) := by omega
  have b1 : IntKind.i64.wrap ((l.length : Int) + 1) < 2 ^ 40 := by omega
  refine Spec.body (C := cx [(12, true)] 133) fits (fn := Try.f35) Try.func35 rfl (by decide) (by decide) (gI ?_)
  repeat' (first | ((first | refine C_r ?_ | refine O_r ?_); (conv => whnf); first | refine A_o ?_ | refine B_o ?_) | refine Mk_l ?_ | fail)
  rw [e1, e3]
  refine wLoop [0, 1, 5, 6] 1 (l.length + 2) ?_
  refine (fun key => key (l.length + 1) 0 _ (by omega) (by simp) hfl :
    (∀ (c i : Nat) (out : List Int), c + i = l.length + 1 → out.length = l.length + 1 → fillS c i out = fl →
    WR2 _ _ _ _ _ (c + 1) [(0, lst Ins.row l), (1, int .i64 l.length), (5, .one (.arr 0 0 (l.length + 1))), (6, int .i64 i)] [.arr 0 true 1 (out.map i64row)]) → _) ?_
  clear hfl e1 e3 b0 b1 hw
  intro c
  induction c with
  | succ c ih =>
    intro i out h1 h2 h3
    have g := ih (i + 1) (out.set i 65535) (by omega) (by simp [h2]) h3
    have e7 : IntKind.i64.wrap ((i : Int) + 1) = ((i + 1 : Nat) : Int) := by rw [wrap_ok (by omega) (by omega)]; omega
    have hro := row_at (out := out) (n := i) (by omega)
    have hro : (out.map i64row)[((i : Int)).toNat]? = some (i64row (getI out i)) := hro
    have e2 : l.length + 1 = (out.map i64row).length := by rw [List.length_map]; omega
    have q : decide ((i : Int) ≤ (l.length : Int)) = true := by rw [decide_eq_true_eq]; omega
    rw [List.map_set] at g
    clear ih hfb hok
    refine wR (gI ?_)
    repeat' (first | ((first | refine C_r ?_ | refine O_r ?_); (conv => whnf); first | (refine ⟨fun hb => ?_, fun hb => ?_⟩ <;> try exact no_way) | refine B_o ?_ | refine R_o ?_) | refine Xw_l ?_ | refine Se_l ?_ | fail)
    all_goals (rw [e7]; exact rE g)
  | zero =>
    intro i out h1 h2 h3
    have h3 : out = fl := h3
    subst h3
    have q : decide ((i : Int) ≤ (l.length : Int)) = false := by rw [decide_eq_false_iff_not]; omega
    have e2 : l.length + 1 = (out.map i64row).length := by rw [List.length_map]; omega
    have hro := row_at (out := out) (n := 0) (by omega)
    have hro : (out.map i64row)[((0 : Int)).toNat]? = some (i64row (getI out 0)) := hro
    refine wR (gI ?_)
    repeat' (first | ((first | refine C_r ?_ | refine O_r ?_); (conv => whnf); first | (refine ⟨fun hb => ?_, fun hb => ?_⟩ <;> try exact no_way) | refine A_o ?_ | refine B_o ?_) | refine Xw_l ?_ | refine Se_l ?_ | fail)
    have es : (out.map i64row).set ((0 : Int)).toNat [D.sc (Value.int IntKind.i64 0)] = (out.set 0 0).map i64row := by rw [List.map_set]; rfl
    rw [es]
    refine wLoop [0, 5, 7] 1 (l.length + 1) ?_
    refine (fun key => key l [] _ rfl (by simp [h2]) hfb :
      (∀ (rest done : List Ins) (out : List Int), l = done ++ rest → out.length = l.length + 1 → stoF rest done.length out = fb →
      WR2 _ _ _ _ _ (rest.length + 1) [(0, lst Ins.row l), (5, .one (.arr 0 0 (l.length + 1))), (7, int .i64 done.length)] [.arr 0 true 1 (out.map i64row)]) → _) ?_
    clear hro e2 h1 q es hfb
    intro rest
    induction rest with
    | nil =>
      intro done out g1 g2 g3
      have g3 : out = fb := g3
      subst g3
      rw [List.append_nil] at g1
      subst g1
      have q : decide ((l.length : Int) < ((l.map Ins.row).length : Int)) = false := by rw [decide_eq_false_iff_not, List.length_map]; omega
      have e2 : l.length + 1 = (out.map i64row).length := by rw [List.length_map]; omega
      rw [e2]
      refine wR (gI ?_)
      refine gF 0 ?_
      repeat' (first | ((first | refine C_r ?_ | refine O_r ?_); (conv => whnf); first | (refine ⟨fun hb => ?_, fun hb => ?_⟩ <;> try exact no_way) | refine A_o ?_ | refine fR ?_) | fail)
      all_goals exact ⟨rfl, rfl⟩
    | cons x rest ih =>
      intro done out g1 g2 g3
      have hx : l[done.length]? = some x := by rw [g1]; simp
      have hlen : l.length = done.length + (rest.length + 1) := by rw [g1]; simp
      obtain ⟨⟨t1, t2⟩, ⟨f1, f2⟩, hcode, hja, hjump, hleft, habs, hdiv, hsh, hcell, hk⟩ := hok done.length x hx
      have g := ih (done ++ [x]) (stoS out done.length x) (by rw [g1]; simp) (by rw [sto_len]; exact g2) (by rw [← g3]; simp [stoF])
      have q : decide ((done.length : Int) < ((l.map Ins.row).length : Int)) = true := by rw [decide_eq_true_eq, List.length_map]; omega
      have e7 : IntKind.i64.wrap ((done.length : Int) + 1) = ((done.length + 1 : Nat) : Int) := by rw [wrap_ok (by omega) (by omega)]; omega
      rw [show (done ++ [x]).length = done.length + 1 from by simp] at g
      clear ih hok g3 hcode habs hdiv hsh
      obtain ⟨c, jt, jf, k⟩ := x
      simp only at *
      have cj := isJumpR c
      have hxx : l[((done.length : Int)).toNat]? = some ⟨c, jt, jf, k⟩ := hx
      generalize hi : done.length = i at *
      have hro := row_at (out := out) (n := i) (by omega)
      have hro : (out.map i64row)[((i : Int)).toNat]? = some (i64row (getI out i)) := hro
      have e2 : l.length + 1 = (out.map i64row).length := by rw [List.length_map]; omega
      unfold stoS at g
      simp only at g
      cases he : endsF c with
      | true =>
        rw [he] at g
        simp only [cond_true] at g
        have hc : c = 6 ∨ c = 22 := by unfold endsF at he; simpa using he
        clear hja hjump hleft
        rcases hc with rfl | rfl
        · refine wR (gI ?_)
          repeat' (first | ((first | refine C_r ?_ | refine O_r ?_); (conv => whnf); first | (refine ⟨fun hb => ?_, fun hb => ?_⟩ <;> try exact no_way) | refine B_o ?_ | refine R_o ?_) | refine X_l ?_ | refine Xw_l ?_ | refine Le_l ?_ | fail)
          all_goals (rw [e7]; exact rE g)
        · refine wR (gI ?_)
          repeat' (first | ((first | refine C_r ?_ | refine O_r ?_); (conv => whnf); first | (refine ⟨fun hb => ?_, fun hb => ?_⟩ <;> try exact no_way) | refine B_o ?_ | refine R_o ?_) | refine X_l ?_ | refine Xw_l ?_ | refine Le_l ?_ | fail)
          all_goals (rw [e7]; exact rE g)
      | false =>
      rw [he] at g
      simp only [cond_false] at g
      have hl1 := hleft he
      have n6 : (c == 6) = false := by unfold endsF at he; rw [Bool.or_eq_false_iff] at he; exact he.1
      have n22 : (c == 22) = false := by unfold endsF at he; rw [Bool.or_eq_false_iff] at he; exact he.2
      have n2 : (c == 2) = false := by rw [beq_eq_false_iff_ne]; exact hcell.1
      have n3 : (c == 3) = false := by rw [beq_eq_false_iff_ne]; exact hcell.2.1
      cases h5 : c == 5 with
      | true =>
        rw [h5] at g
        simp only [cond_true] at g
        have h5' : c = 5 := by simpa using h5
        have hlt := hja h5'
        have w0 : IntKind.i64.wrap k = k := wrap_ok (by omega) (by omega)
        have w1 : IntKind.i64.wrap (IntKind.i64.wrap ((i : Int) + 1) + IntKind.i64.wrap k) = ((i + 1 + k.toNat : Nat) : Int) := by rw [e7, w0, wrap_ok (by omega) (by omega)]; omega
        have w3 : i + 1 + k.toNat = (IntKind.i64.wrap (IntKind.i64.wrap ((i : Int) + 1) + IntKind.i64.wrap k)).toNat := by rw [w1]; omega
        have hr2 := row_at (out := out) (n := (IntKind.i64.wrap (IntKind.i64.wrap ((i : Int) + 1) + IntKind.i64.wrap k)).toNat) (by omega)
        have w2 : 0 ≤ IntKind.i64.wrap (IntKind.i64.wrap ((i : Int) + 1) + IntKind.i64.wrap k) := by rw [w1]; omega
        unfold andAt at g
        rw [List.map_set, w3, ← e7] at g
        clear hja hjump hleft hcell w3
        refine wR (gI ?_)
        repeat' (first | ((first | refine C_r ?_ | refine O_r ?_ | refine R_r ?_); (conv => whnf); first | (refine ⟨fun hb => ?_, fun hb => ?_⟩ <;> try exact no_way) | refine B_o ?_ | refine C_o ?_ | refine R_o ?_) | refine X_l ?_ | refine Xw_l ?_ | refine Le_l ?_ | refine Xw_d ?_ | refine Le_d ?_ | refine Se_d ?_ | fail)
        all_goals exact rE g
      | false =>
      rw [h5] at g
      simp only [cond_false] at g
      cases hj : isJumpF c with
      | true =>
        rw [hj] at g cj
        simp only [cond_true] at g
        obtain ⟨l1, l2⟩ := hjump hj
        have w1 : IntKind.i64.wrap (IntKind.i64.wrap ((i : Int) + 1) + jt) = ((i + 1 + jt.toNat : Nat) : Int) := by rw [e7, wrap_ok (by omega) (by omega)]; omega
        have w1' : IntKind.i64.wrap (IntKind.i64.wrap ((i : Int) + 1) + jf) = ((i + 1 + jf.toNat : Nat) : Int) := by rw [e7, wrap_ok (by omega) (by omega)]; omega
        have w3 : i + 1 + jt.toNat = (IntKind.i64.wrap (IntKind.i64.wrap ((i : Int) + 1) + jt)).toNat := by rw [w1]; omega
        have w3' : i + 1 + jf.toNat = (IntKind.i64.wrap (IntKind.i64.wrap ((i : Int) + 1) + jf)).toNat := by rw [w1']; omega
        rw [w3, w3'] at g
        have w2 : 0 ≤ IntKind.i64.wrap (IntKind.i64.wrap ((i : Int) + 1) + jt) := by rw [w1]; omega
        have w2' : 0 ≤ IntKind.i64.wrap (IntKind.i64.wrap ((i : Int) + 1) + jf) := by rw [w1']; omega
        have hr2 := row_at (out := out) (n := (IntKind.i64.wrap (IntKind.i64.wrap ((i : Int) + 1) + jt)).toNat) (by omega)
        have hr3 := row_at (out := andAt out (IntKind.i64.wrap (IntKind.i64.wrap ((i : Int) + 1) + jt)).toNat (getI out i)) (n := (IntKind.i64.wrap (IntKind.i64.wrap ((i : Int) + 1) + jf)).toNat) (by rw [and_len]; omega)
        unfold andAt at g hr3
        rw [List.map_set] at hr3
        have e2' : l.length + 1 = ((out.map i64row).set (IntKind.i64.wrap (IntKind.i64.wrap ((i : Int) + 1) + jt)).toNat (i64row (andI (getI out (((IntKind.i64.wrap (IntKind.i64.wrap ((i : Int) + 1) + jt)).toNat : Nat) : Int)) (getI out i)))).length := by rw [List.length_set]; exact e2
        rw [List.map_set, List.map_set, ← e7] at g
        clear hja hjump hleft hcell w3 w3'
        refine wR (gI ?_)
        repeat' (first | ((first | refine C_r ?_ | refine O_r ?_ | refine R_r ?_); (conv => whnf); first | (refine ⟨fun hb => ?_, fun hb => ?_⟩ <;> try exact no_way) | refine B_o ?_ | refine C_o ?_ | refine R_o ?_) | refine C_l (cj) ?_ | refine X_l ?_ | refine Xw_l ?_ | refine Le_l ?_ | refine Xw_d ?_ | refine Le_d ?_ | refine Se_d ?_ | fail)
        all_goals first | exact rE g | trace_state
      | false =>
        rw [hj] at g cj
        simp only [cond_false] at g
        have w3 : i + 1 = (IntKind.i64.wrap ((i : Int) + 1)).toNat := by rw [e7]; omega
        have hr2 := row_at (out := out) (n := (IntKind.i64.wrap ((i : Int) + 1)).toNat) (by omega)
        have w2 : 0 ≤ IntKind.i64.wrap ((i : Int) + 1) := by rw [e7]; omega
        unfold andAt at g
        rw [List.map_set, ← e7, w3] at g
        clear hja hjump hleft hcell
        refine wR (gI ?_)
        repeat' (first | ((first | refine C_r ?_ | refine O_r ?_); (conv => whnf); first | (refine ⟨fun hb => ?_, fun hb => ?_⟩ <;> try exact no_way) | refine B_o ?_ | refine R_o ?_) | refine C_l (cj) ?_ | refine X_l ?_ | refine Xw_l ?_ | refine Le_l ?_ | refine Se_l ?_ | fail)
        all_goals first | exact rE g | trace_state
end Go.Proofs.Ytcplpllbinilmaa
