/- The abstract machine: from a function that computes true to a law that holds. -/
import Derived.Test.YtfbocpbeogkapaaAmOpen2
import Derived.Below
import Derived.ChangeShapes
import Derived.WideShapes
import Derived.ChangeOld
import Derived.Carry
set_option linter.unusedVariables false
set_option linter.unusedSimpArgs false
namespace Go.Am

def aggTy (P : Program) (t : TypeId) : Bool :=
  match P.underlying t with
  | some (.struct _) | some (.array _ _) => true
  | _ => false
def argV (a : Bool) (xs : List D) : V := bif a then .agg (xs.map .d) else match xs with
  | [x] => .one (.d x)
  | _ => .undef
def k0 (W : World) : K := { S := S0 W, at_ := fun _ => none, sl := fun _ _ _ => none }

theorem k0_rs (W : World) : RS (k0 W) W [] :=
  ⟨fun id o h => by simp at h, fun _ _ _ _ _ h => by simp at h, fun _ _ h => by simp at h, fun b o ⟨v, hv⟩ => by
    unfold cellAt World.cell? at hv
    split at hv
    · rename_i h; exact (Array.getElem?_eq_some_iff.1 h).1
    · simp at hv⟩

theorem under_data (L : Nat → Bool) : ∀ xs : List D, underAll L (xs.map .d) = true
  | [] => rfl
  | x :: xs => by simp only [List.map_cons, underAll, Cell.under, Bool.true_and]; exact under_data L xs
theorem argV_under (L : Nat → Bool) (a : Bool) (xs : List D) : (argV a xs).under L = true := by
  cases a with
  | true => exact under_data L xs
  | false => unfold argV; simp only [cond_false]; split <;> rfl

theorem arg_open {H : Type} {enc : TypeId × Value → H} {P : Program} {W : World} {spare : Nat → Bool} {held : Bool} {k : Nat} {t : TypeId} {v : Value} {d : DataW H} {ps : List MemPlace} {r : Reach} {base : Nat}
    (hok : readOk P k t = true) (h : DataW.Trod enc P W 0 spare held t v d ps) (hw : (d.weights P t).all (· ≤ reachBytes) = true) (hv : Value.okWide P W r base t v) :
    ∃ xs, Typed P t xs ∧ RV (k0 W) W (argV (aggTy P t) xs) v := by
  obtain ⟨fuel, hf⟩ := h
  obtain ⟨xs, h1, h2⟩ := open_sound fuel k t _ d ps hok hf hw
  refine ⟨xs, h1, ?_⟩
  have one : aggTy P t = false → v.cells = #[v] → RV (k0 W) W (argV (aggTy P t) xs) v := by
    intro ha hc
    rw [hc] at h2
    match xs, h2 with
    | [x], h2 => rw [ha]; exact .one _ _ (.d _ _ (h2.2 0 x v rfl rfl))
    | [], h2 => have := h2.1; simp at this
    | _ :: _ :: _, h2 => have := h2.1; simp at this
  have agg : aggTy P t = true → (∃ cs, v = .agg cs) → RV (k0 W) W (argV (aggTy P t) xs) v := by
    intro ha ⟨cs, hc⟩
    subst hc
    rw [ha]
    refine .agg _ _ ⟨by simpa [Value.cells] using h2.1, fun i c u hc hu => ?_⟩
    rw [List.getElem?_map, Option.map_eq_some_iff] at hc
    obtain ⟨x, hx, rfl⟩ := hc
    exact .d _ _ (h2.2 i x u hx (by simpa [Value.cells] using hu))
  cases k with
  | zero => simp [readOk] at hok
  | succ k =>
    unfold readOk at hok
    split at hok
    case h_1 hu => exact one (by simp [aggTy, hu]) (by obtain ⟨_, rfl⟩ := Go.WideShapes.okWide_bool hu hv; rfl)
    case h_2 hu => exact one (by simp [aggTy, hu]) (by obtain ⟨_, rfl⟩ := Go.WideShapes.okWide_int hu hv; rfl)
    case h_3 hu => exact one (by simp [aggTy, hu]) (by obtain ⟨_, rfl⟩ := Go.WideShapes.okWide_string hu hv; rfl)
    case h_4 hu => exact one (by simp [aggTy, hu]) (by obtain ⟨_, _, _, rfl⟩ := Go.WideShapes.okWide_slice hu hv; rfl)
    case h_5 hu => exact agg (by simp [aggTy, hu]) (by simp only [Value.okWide, hu] at hv; obtain ⟨cs, h, _⟩ := hv; exact ⟨cs, h⟩)
    case h_6 hu => exact agg (by simp [aggTy, hu]) (by simp only [Value.okWide, hu] at hv; obtain ⟨cs, h, _⟩ := hv; exact ⟨cs, h⟩)
    case h_7 => simp at hok

theorem calls_of_comp {P : Program} {f : FuncId} {args : List V} (h : Comp P f args (bool true)) {W : World} {xs : List Value} (hx : RVs (k0 W) W (alive []) args xs) :
    Calls P f xs.toArray W fun e W' => e = .returned (.bool true) ∧ Go.RowKit.Below W.heap.size W W' := by
  refine (h.2 (k0 W) W xs (k0_rs W) hx).mono fun en w' ⟨x, r, κ', σ', h1, ⟨h2, h3⟩, hrv, _, hev, _⟩ => ?_
  subst h2
  have hx : x = .bool true := by cases hrv with | one _ _ hc => cases hc with | d _ _ hd => cases hd with | sc _ _ => rfl
  subst hx
  refine ⟨h1, hev.os, hev.tape, hev.output, hev.size, fun k hk => hev.frame k hk ?_⟩
  rintro ⟨id, o, h, _⟩
  simp at h

/-! what data of a type looks like -/
theorem Typed.int_inv {P : Program} {t : TypeId} {xs : List D} {k : IntKind} (h : Typed P t xs) (hu : P.underlying t = some (.int k)) : ∃ n, xs = [.sc (.int k n)] ∧ (Lit.int k n).wf = true := by
  cases h with
  | int _ k' n h' hw => rw [hu] at h'; injection h' with h'; injection h' with h'; subst h'; exact ⟨n, rfl, hw⟩
  | _ => simp_all
theorem Typed.bool_inv {P : Program} {t : TypeId} {xs : List D} (h : Typed P t xs) (hu : P.underlying t = some .bool) : ∃ b, xs = [.sc (.bool b)] := by
  cases h with
  | bool _ b _ => exact ⟨b, rfl⟩
  | _ => simp_all
theorem Typed.str_inv {P : Program} {t : TypeId} {xs : List D} (h : Typed P t xs) (hu : P.underlying t = some .string) : ∃ s, xs = [.sc (.string s)] ∧ s.size ≤ reachBytes := by
  cases h with
  | str _ s _ hs => exact ⟨s, rfl, hs⟩
  | _ => simp_all
theorem Typed.slice_inv {P : Program} {t e : TypeId} {xs : List D} (h : Typed P t xs) (hu : P.underlying t = some (.slice e)) : ∃ rows, xs = [.list rows] ∧ (∀ row ∈ rows, Typed P e row) ∧ rows.length * P.bytesOf e ≤ reachBytes := by
  cases h with
  | slice _ e' rows h' hr hs => rw [hu] at h'; injection h' with h'; injection h' with h'; subst h'; exact ⟨rows, rfl, hr, hs⟩
  | _ => simp_all
theorem Typed.struct_inv {P : Program} {t : TypeId} {fs : Array Field} {xs : List D} (h : Typed P t xs) (hu : P.underlying t = some (.struct fs)) :
    ∃ xss : List (List D), xs = xss.flatten ∧ xss.length = fs.size ∧ ∀ (i : Nat) (f : Field) (ys : List D), fs.toList[i]? = some f → xss[i]? = some ys → Typed P f.type ys := by
  cases h with
  | struct _ fs' xss h' hn hx => rw [hu] at h'; injection h' with h'; injection h' with h'; subst h'; exact ⟨xss, rfl, hn, hx⟩
  | _ => simp_all
end Go.Am
