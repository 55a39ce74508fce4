/- A part of a proof: functions of the program, walked over the abstract machine. -/
import Derived.Test.YtfbocpbeogkapaaInstr4
set_option linter.unusedVariables false
set_option linter.unusedSimpArgs false
namespace Go.Proofs.Ytfbocpbeogkapaa
open Go Go.Am Go.Proofs
attribute [local irreducible] W WL DL WO RoundEnd
set_option maxRecDepth 10000
set_option maxHeartbeats 4000000
theorem decode_app : ∀ (a b : List UInt8), a.length % 8 = 0 → decode (a ++ b) = decode a ++ decode b
  | b0 :: b1 :: b2 :: b3 :: b4 :: b5 :: b6 :: b7 :: r, b, h => by
    simp only [decode, List.cons_append, decode_app r b (by simp at h; omega)]
  | [], b, _ => rfl
  | [_], _, h => by simp at h
  | [_, _], _, h => by simp at h
  | [_, _, _], _, h => by simp at h
  | [_, _, _, _], _, h => by simp at h
  | [_, _, _, _, _], _, h => by simp at h
  | [_, _, _, _, _, _], _, h => by simp at h
  | [_, _, _, _, _, _, _], _, h => by simp at h
theorem all_of_len {l : List Ins} (h : (encode l).length = 8 * l.length) : l.all Ins.right = true ∨ l = [] := by
  unfold encode at h
  cases hr : l.all Ins.right with
  | true => exact .inl rfl
  | false =>
    rw [hr] at h
    simp at h
    exact .inr (List.length_eq_zero_iff.1 (by omega))
theorem all_of_len' {l : List Ins} (h : (encode l).length = 8 * l.length) : l.all Ins.right = true := by
  rcases all_of_len h with h | rfl
  · exact h
  · rfl
attribute [local irreducible] encode decode
theorem join (l m : List Ins) (hkl : ∀ x ∈ l, x.ok) (hkm : ∀ x ∈ m, x.ok) (hl : l.length < 2 ^ 43) (hm : m.length < 2 ^ 43) : Comp Try.prog 5 [lst Ins.row l, lst Ins.row m] (bool true) := by
  refine Spec.body (C := cx [(49, false), (56, false), (61, false)] 91) fits (fn := Try.f5) Try.func5 rfl (by decide) (by decide) (gI ?_)
  repeat' (first
    | ((first | refine gC fits mixed ?_ | refine gC0 fits mixed ?_ | refine gO fits mixed ?_ | refine gR fits mixed ?_); (conv => whnf); first | (refine ⟨fun hb => ?_, fun hb => ?_⟩ <;> try first | (simp only [Bool.not_true, Bool.not_false, Bool.true_eq_false, Bool.false_eq_true, reduceCtorEq] at hb; done) | (simp only [decide_eq_true_eq, decide_eq_false_iff_not, beq_iff_eq, beq_eq_false_iff_ne, bne_iff_ne, bne_eq_false_iff_eq, ne_eq, List.length_map, List.length_cons, List.length_nil, List.length_append, Bool.not_eq_true', Bool.not_eq_false'] at hb; exfalso; omega) | (exfalso; simp [ba_beq, IntKind.wrap, IntKind.bits, IntKind.signed] at hb; done)) | (show W _ _ _ _ _) | (show ∀ k, WL _ _ _ k _ _ _) | (show ∀ k, DL _ _ _ k _ _ _ _) | (show RoundEnd _ _ _ _ _) | refine fR ?_)
    | (show ∀ k, WL _ _ _ k _ _ _; first | refine fun k => lC (alive1) (oW ?_ _) | refine fun k => lC (bytesR l (by omega) hkl) (oW ?_ _) | refine fun k => lC (bytesR m (by omega) hkm) (oW ?_ _) | refine fun k => lSA fits (oW ?_ _) | refine fun k => lL fits (oW ?_ _) | refine fun k => lQ fits (oW ?_ _) | refine fun k => lX fits (oW ?_ _) | refine fun k => lXa fits (oW ?_ _) | refine fun k => lK fits (oW ?_ _) | refine fun k => lKa fits (oW ?_ _) | refine fun k => lLk fits (oW ?_ _) | refine fun k => lUp fits (oW ?_ _) | refine fun k => lDel fits (oW ?_ _) | refine fun k => lSt fits (oW ?_ _) | refine fun k => lM fits (oW ?_ _) | refine fun k => lA fits (oW ?_ _) | refine fun k => lA0 fits (oW ?_ _) | refine fun k => lA1 fits (oW ?_ _) | refine fun k => lMk fits (oW ?_ _) | refine fun k => lW fits (oW ?_ _)))
  · exact ⟨rfl, rfl⟩
  · exact ⟨rfl, rfl⟩
  · exact ⟨rfl, rfl⟩
  · exact ⟨rfl, rfl⟩
  have h1 : ¬ (((l.map Ins.row).length : Int) > 100) := of_decide_eq_false (by assumption)
  have h2 : ¬ (((m.map Ins.row).length : Int) > 100) := of_decide_eq_false (by assumption)
  have h3 : (!(((encode l).map u8row).length : Int) == IntKind.i64.wrap (8 * ((l.map Ins.row).length : Int))) = false := by assumption
  have h4 : (!(((encode m).map u8row).length : Int) == IntKind.i64.wrap (8 * ((m.map Ins.row).length : Int))) = false := by assumption
  simp only [List.length_map] at h1 h2 h3 h4
  rw [wrap_ok (by omega) (by omega), Bool.not_eq_false', beq_iff_eq] at h3 h4
  have ha := all_of_len' (l := l) (by omega)
  have hb' := all_of_len' (l := m) (by omega)
  have eall : encode (l ++ m) = encode l ++ encode m := by unfold encode; rw [List.all_append, ha, hb']; simp
  have hde : decode (encode l ++ encode m) = l ++ m := by
    rw [← eall, encode, List.all_append, ha, hb']
    exact decode_encode _ (by rw [List.all_append, ha, hb']; rfl) (fun x hx => (List.mem_append.1 hx).elim (hkl x) (hkm x))
  have c1 : Comp Try.prog 11 [.one (.d (.list ((encode l).map u8row ++ (encode m).map u8row)))] (.tup [.one (.d (.list (l.map Ins.row ++ m.map Ins.row))), .one (.d (.sc (.int .i64 0)))]) := by
    have := read_ok (bs := encode l ++ encode m) (by simp; omega) (by simp; omega)
    rw [hde, List.map_append] at this
    rw [← List.map_append]; exact this
  have c2 : Comp Try.prog 14 [.one (.d (.list (l.map Ins.row ++ m.map Ins.row))), .one (.d (.list (l.map Ins.row ++ m.map Ins.row)))] (bool true) := by
    have := same_self (l ++ m) (by simp; omega)
    rw [lst, List.map_append] at this; exact this
  have c3 : Comp Try.prog 10 [.one (.d (.list (l.map Ins.row ++ m.map Ins.row)))] (bytesV (encode l ++ encode m)) := by
    have := bytesC (l ++ m) (by simp; omega)
    rw [lst, List.map_append, eall] at this; exact this
  have c4 : Comp Try.prog 11 [.one (.d (.list ((encode l).map u8row ++ [[.sc (.int .u8 1)]])))] (.tup [.one (.d (.list [])), .one (.d (.sc (.int .i64 2)))]) := by
    have := read_bad (bs := encode l ++ [1]) (by simp; omega) (by simp; omega)
    rw [bytesV, List.map_append] at this; exact this
  have hstr : (⟨(encode l ++ encode m).toArray⟩ : ByteArray) = ⟨(encode l).toArray⟩ ++ ⟨(encode m).toArray⟩ := by
    apply ByteArray.ext; simp
  repeat' (first
    | ((first | refine gC fits mixed ?_ | refine gC0 fits mixed ?_ | refine gO fits mixed ?_ | refine gR fits mixed ?_); (conv => whnf); first | (refine ⟨fun hb => ?_, fun hb => ?_⟩ <;> try first | (simp only [Bool.not_true, Bool.not_false, Bool.true_eq_false, Bool.false_eq_true, reduceCtorEq] at hb; done) | (simp only [decide_eq_true_eq, decide_eq_false_iff_not, beq_iff_eq, beq_eq_false_iff_ne, bne_iff_ne, bne_eq_false_iff_eq, ne_eq, List.length_map, List.length_cons, List.length_nil, List.length_append, Bool.not_eq_true', Bool.not_eq_false'] at hb; exfalso; omega) | (exfalso; simp [ba_beq, IntKind.wrap, IntKind.bits, IntKind.signed] at hb; done)) | (show W _ _ _ _ _) | (show ∀ k, WL _ _ _ k _ _ _) | (show ∀ k, DL _ _ _ k _ _ _ _) | (show RoundEnd _ _ _ _ _) | refine fR ?_)
    | (show ∀ k, WL _ _ _ k _ _ _; first | refine fun k => lC (c1) (oW ?_ _) | refine fun k => lC (c2) (oW ?_ _) | refine fun k => lC (c3) (oW ?_ _) | refine fun k => lC (c4) (oW ?_ _) | refine fun k => lC (num _) (oW ?_ _) | refine fun k => lSA fits (oW ?_ _) | refine fun k => lL fits (oW ?_ _) | refine fun k => lQ fits (oW ?_ _) | refine fun k => lX fits (oW ?_ _) | refine fun k => lXa fits (oW ?_ _) | refine fun k => lK fits (oW ?_ _) | refine fun k => lKa fits (oW ?_ _) | refine fun k => lLk fits (oW ?_ _) | refine fun k => lUp fits (oW ?_ _) | refine fun k => lDel fits (oW ?_ _) | refine fun k => lSt fits (oW ?_ _) | refine fun k => lM fits (oW ?_ _) | refine fun k => lA fits (oW ?_ _) | refine fun k => lA0 fits (oW ?_ _) | refine fun k => lA1 fits (oW ?_ _) | refine fun k => lMk fits (oW ?_ _) | refine fun k => lW fits (oW ?_ _))
    | (show ∀ k, DL _ _ _ k _ _ _ _; first | refine fun k => dC (c1) (oD ?_ _) | refine fun k => dC (c2) (oD ?_ _) | refine fun k => dC (c3) (oD ?_ _) | refine fun k => dC (c4) (oD ?_ _) | refine fun k => dC (num _) (oD ?_ _) | refine fun k => dSA fits (oD ?_ _) | refine fun k => dL fits (oD ?_ _) | refine fun k => dQ fits (oD ?_ _) | refine fun k => dX fits (oD ?_ _) | refine fun k => dK fits (oD ?_ _) | refine fun k => dKa fits (oD ?_ _) | refine fun k => dLk fits (oD ?_ _) | refine fun k => dUp fits (oD ?_ _) | refine fun k => dA fits (oD ?_ _) | refine fun k => dA0 fits (oD ?_ _) | refine fun k => dSt fits (oD ?_ _) | refine fun k => dM fits (oD ?_ _) | refine fun k => dN fits (oD ?_ _) | refine fun k => dW fits (oD ?_ _)))
  all_goals first | exact ⟨rfl, rfl⟩ | (exfalso; rw [hstr] at hb; simp [ba_beq] at hb; done) | trace_state
end Go.Proofs.Ytfbocpbeogkapaa
