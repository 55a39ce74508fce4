/- Maps as lists of pairs: what the abstract machine finds and writes there. -/
import Derived.Test.YtceccgnpkelpkaaBase
set_option linter.unusedVariables false
set_option linter.unusedSimpArgs false
namespace Go.Proofs.Ytceccgnpkelpkaa
open Go Go.Am Go.Proofs
section
variable {α : Type}
/-- a key's place and value -/
def fk (k : ByteArray) : List (ByteArray × α) → Nat → Option (Nat × α)
  | [], _ => none
  | (k', v) :: r, i => if k = k' then some (i, v) else fk k r (i + 1)
def ents (enc : α → Am.FV) (l : List (ByteArray × α)) : List (Value × Am.FV) := l.map fun p => (.string p.1, enc p.2)
theorem findKey_ents (enc : α → Am.FV) (k : ByteArray) : ∀ (l : List (ByteArray × α)) (i : Nat), findKey (.string k) (ents enc l) i = some ((fk k l i).map fun p => (p.1, enc p.2))
  | [], i => rfl
  | (k', v) :: r, i => by
    show (match keyEq (.string k) (.string k') with
      | some true => some (some (i, enc v))
      | some false => findKey (.string k) (ents enc r) (i + 1)
      | none => none) = _
    rw [findKey_ents enc k r (i + 1)]
    simp only [keyEq, fk, ba_beq]
    by_cases h : k = k'
    · simp [h]
    · simp [h]
theorem fk_spec {k : ByteArray} : ∀ {l : List (ByteArray × α)} {i j : Nat} {v : α}, fk k l i = some (j, v) → ∃ n, j = i + n ∧ l[n]? = some (k, v)
  | (k', v') :: r, i, j, v, h => by
    rw [fk] at h
    split at h
    · rename_i he
      simp only [Option.some.injEq, Prod.mk.injEq] at h
      exact ⟨0, by omega, by rw [he, ← h.2]; rfl⟩
    · obtain ⟨n, h1, h2⟩ := fk_spec h
      exact ⟨n + 1, by omega, by simpa using h2⟩
theorem fk_none {k : ByteArray} : ∀ {l : List (ByteArray × α)} {i : Nat}, fk k l i = none ↔ k ∉ l.map (·.1)
  | [], i => by simp [fk]
  | (k', v') :: r, i => by
    rw [fk]
    split
    · rename_i h; simp [h]
    · rename_i h; rw [fk_none (l := r)]; simp [h]
theorem fk_append {k : ByteArray} {m : List (ByteArray × α)} : ∀ {l : List (ByteArray × α)} {i : Nat}, k ∉ l.map (·.1) → fk k (l ++ m) i = fk k m (i + l.length)
  | [], i, _ => by simp
  | (k', v') :: r, i, h => by
    simp only [List.map_cons, List.mem_cons, not_or] at h
    rw [List.cons_append, fk, if_neg h.1, fk_append h.2, List.length_cons]
    congr 1; omega
theorem ents_append (enc : α → Am.FV) (l m : List (ByteArray × α)) : ents enc (l ++ m) = ents enc l ++ ents enc m := by simp [ents]
theorem ents_erase (enc : α → Am.FV) : ∀ (l : List (ByteArray × α)) (i : Nat), (ents enc l).eraseIdx i = ents enc (l.eraseIdx i)
  | [], i => rfl
  | x :: l, 0 => rfl
  | x :: l, i + 1 => by
    show _ :: (ents enc l).eraseIdx i = _ :: ents enc (l.eraseIdx i)
    rw [ents_erase enc l i]
end
end Go.Proofs.Ytceccgnpkelpkaa
