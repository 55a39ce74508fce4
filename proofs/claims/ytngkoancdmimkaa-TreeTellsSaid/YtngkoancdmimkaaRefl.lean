/- A part of a proof: functions of the program, walked over the abstract machine. -/
import Derived.Test.YtngkoancdmimkaaUses2
set_option linter.unusedVariables false
set_option linter.unusedSimpArgs false
namespace Go.Proofs.Ytngkoancdmimkaa
open Go Go.Am Go.Proofs
theorem Ex.eqb_refl : (∀ e : Ex, e.eqb e = true) := by
  intro e
  exact Ex.rec (motive_1 := fun e => e.eqb e = true) (motive_2 := fun l => Ex.eqbs l l = true) (fun k o n u l ih => by simp [Ex.eqb, ba_beq, ih]) rfl (fun x l h1 h2 => by simp [Ex.eqbs, h1, h2]) e
theorem pw_refl {α : Type} {f : α → α → Bool} (h : ∀ x, f x x = true) : ∀ l : List α, pw f l l = true
  | [] => rfl
  | x :: l => by simp [pw, h, pw_refl h l]
theorem Ex.eqbs_refl : ∀ l : List Ex, Ex.eqbs l l = true
  | [] => rfl
  | x :: l => by simp [Ex.eqbs, Ex.eqb_refl, Ex.eqbs_refl l]
theorem Rule.eqb_refl (r : Rule) : r.eqb r = true := by simp [Rule.eqb, ba_beq, pw_refl, Ex.eqbs_refl]
theorem Part.eqb_refl (r : Part) : r.eqb r = true := by simp [Part.eqb, Act.eqb, ba_beq, pw_refl Rule.eqb_refl]
end Go.Proofs.Ytngkoancdmimkaa
