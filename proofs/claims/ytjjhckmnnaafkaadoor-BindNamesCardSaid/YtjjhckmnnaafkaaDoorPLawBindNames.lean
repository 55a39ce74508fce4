/- The law BindNames: the function returns true whatever it is handed, and what it is handed reads as before; the listed variables tied to the text of the program. -/
import Derived.Test.YtjjhckmnnaafkaaDoorRows
import Derived.Test.YtjjhckmnnaafkaaDoorCards
import Derived.Test.YtjjhckmnnaafkaaDoorTie
import Derived.Test.YtjjhckmnnaafkaaDoorPAmDoor
import Derived.Test.YtjjhckmnnaafkaaDoorPWAv
import Derived.WalkKit
import Derived.ProofKit
import Derived.OpenShut
import Derived.ShutString
import Derived.ChangeOld
import Derived.Below
import Derived.SizedLaws
import Derived.Carry
import Derived.HandedShaped
import Derived.Shelf.Vars
import Derived.LaidMore
import Derived.Stop.Joined
import Derived.SevenTiedAt
set_option linter.unusedVariables false
set_option linter.unusedSimpArgs false
namespace Go.Proofs.YtjjhckmnnaafkaaDoor.bindNames
open Go.ChangeShapes Go.WideShapes Go.ChangeAt Go.RowKit Go.Am
theorem own : ownKnob Tryd.prog.godebug = none := by kernel_rfl
theorem laidOut : laidOutB Tryd.prog = true := by kernel_rfl
def laidL : List (String × DataW Unit) := [("unicode.White_Space", Rows.laid_unicode_White_Space), ("strings.asciiSpace", Rows.laid_strings_asciiSpace)]
theorem g1 : Tryd.prog.globalNamed "unicode.White_Space" = some 1 := by kernel_rfl
theorem g0 : Tryd.prog.globalNamed "strings.asciiSpace" = some 0 := by kernel_rfl
theorem door_met (os : Os) (args : Array Value) : laidMetH Tryd.prog laidL ((World.doorLaid Tryd.prog 2000 os).forCall (fun _ _ => 0) ⟨#[], args, []⟩).memory :=
  laidMetH_of_parts3 (fuel := 20) (laidMet_of_run' 20 (by kernel_rfl) (by kernel_rfl)) (by kernel_rfl) (by kernel_rfl)
set_option maxRecDepth 100000 in
theorem of_laid {W : World} (h : laidMetH Tryd.prog laidL W) : ∀ (j : Nat) (v : Int), asciiVals[j]? = some v → W.cell? ⟨0, j, none⟩ = some (.int .u8 v) := by
  rw [MakeChecks.laidMetH_plain _ _ _ (by kernel_rfl)] at h
  obtain ⟨ps, hl, _, _⟩ := h
  obtain ⟨g_0, t_0, cs_0, f_0, p_0, q_0, hg_0, ht_0, hv_0, hd_0, hr_0, _⟩ := hl
  obtain ⟨g_1, t_1, cs_1, f_1, p_1, q_1, hg_1, ht_1, hv_1, hd_1, hr_1, _⟩ := hr_0
  obtain rfl := Option.some.inj (g0.symm.trans hg_1)
  obtain rfl := Option.some.inj ((show (Tryd.prog.globals[0]?).map (·.type) = some 156 by kernel_rfl).symm.trans ht_1)
  have hd2 : DataW.trod (fun _ => ()) Tryd.prog W 0 (fun _ => true) false f_1 156 cs_1.toList = some (.agg (asciiVals.map fun v => .lit (.int .u8 v)), p_1) := hd_1
  intro j v hj
  rw [World.var?_cell g0 hv_1 j, ← Array.getElem?_toList]
  exact laid_u8s Tryd.underlying156 Tryd.underlying5 (by kernel_rfl) hd2 j v hj
set_option maxRecDepth 100000 in
theorem lifted (os : Os) (started : os.Started) (H : Type) (enc : TypeId × Value → H) :
    ReturnsInHanded {} Tryd.checked os 3 .any (fun w args => (Rows.bindNamesSpec.pre enc Tryd.prog Tryd.f3 [] false w args ∧ laidMetH Tryd.prog laidL w) ∧ sizedMet enc Tryd.prog Tryd.f3 (OpenSpec.ofChange Rows.bindNamesSpec) false w args) (Rows.bindNamesSpec.post enc Tryd.prog Tryd.f3 false true false false) := by
  refine change_and_shaped (C := Tryd.checked) (X := fun w _ => laidMetH Tryd.prog laidL w) (fun _ _ _ hh h => h.of_heap hh) own started (by kernel_rfl) Tryd.func3
    (ChangeSpec.witness_shaped (enc := enc) (C := Tryd.checked) (os := os) (X := fun w _ => laidMetH Tryd.prog laidL w) false (World.doorLaid Tryd.prog 2000 os) #[.string ByteArray.empty, .int .i64 0, .int .i64 0, .int .u64 0, .slice none 0 0] 8 rfl (World.shaped_of_RefB (by kernel_rfl) (by kernel_rfl)) (by kernel_rfl) (by kernel_rfl) (by kernel_rfl) (door_met os _)) ?_
  intro W base args ds gs before hval0 hW hcnd hsz0 hL hsh _
  have hsz : (DataW.weightsEach Tryd.prog (Tryd.f3.params.toList ++ Rows.bindNamesSpec.plain.varTypes Tryd.prog) (ds ++ gs)).all (· ≤ reachBytes) = true := hsz0
  have hval : ∀ (j : Nat) t v, Tryd.f3.params[j]? = some t → args[j]? = some v → Value.okWide Tryd.prog W .any base t v := hval0
  have hW' := hW
  obtain ⟨p, q, hA0, hV, rfl, hfz, hnd⟩ := hW
  have hA : DataW.TrodAll enc Tryd.prog W 0 (fun _ => true) true Tryd.f3.params.toList args.toList ds p := hA0
  rw [Tryd.params3] at hA hval hsz
  obtain ⟨v0, vs0, d0, ds0, p0, q0, hargs, rfl, rfl, h0, r0⟩ := trodAll_cons hA
  obtain ⟨v1, vs1, d1, ds1, p1, q1, rfl, rfl, rfl, h1, r1⟩ := trodAll_cons r0
  obtain ⟨v2, vs2, d2, ds2, p2, q2, rfl, rfl, rfl, h2, r2⟩ := trodAll_cons r1
  obtain ⟨v3, vs3, d3, ds3, p3, q3, rfl, rfl, rfl, h3, r3⟩ := trodAll_cons r2
  obtain ⟨v4, vs4, d4, ds4, p4, q4, rfl, rfl, rfl, h4, r4⟩ := trodAll_cons r3
  obtain ⟨rfl, rfl, rfl⟩ := trodAll_nil r4
  obtain rfl : args = #[v0, v1, v2, v3, v4] := by cases args; simp_all
  obtain ⟨rfl, rfl⟩ := trodVars_none hV
  have lt0 : ∀ x ∈ p0, x.block < W.heap.size := by obtain ⟨m, hm⟩ := h0; exact DataW.trod_lt m _ _ _ hm
  obtain ⟨x0, y0, z0⟩ := arg_open (k := 400) (t := 9) (by kernel_rfl) h0 (weightsEach_get hsz 0 9 d0 rfl rfl) (hval 0 9 v0 rfl rfl)
  have lt1 : ∀ x ∈ p1, x.block < W.heap.size := by obtain ⟨m, hm⟩ := h1; exact DataW.trod_lt m _ _ _ hm
  obtain ⟨x1, y1, z1⟩ := arg_open (k := 400) (t := 3) (by kernel_rfl) h1 (weightsEach_get hsz 1 3 d1 rfl rfl) (hval 1 3 v1 rfl rfl)
  have lt2 : ∀ x ∈ p2, x.block < W.heap.size := by obtain ⟨m, hm⟩ := h2; exact DataW.trod_lt m _ _ _ hm
  obtain ⟨x2, y2, z2⟩ := arg_open (k := 400) (t := 3) (by kernel_rfl) h2 (weightsEach_get hsz 2 3 d2 rfl rfl) (hval 2 3 v2 rfl rfl)
  have lt3 : ∀ x ∈ p3, x.block < W.heap.size := by obtain ⟨m, hm⟩ := h3; exact DataW.trod_lt m _ _ _ hm
  obtain ⟨x3, y3, z3⟩ := arg_open (k := 400) (t := 22) (by kernel_rfl) h3 (weightsEach_get hsz 3 22 d3 rfl rfl) (hval 3 22 v3 rfl rfl)
  have lt4 : ∀ x ∈ p4, x.block < W.heap.size := by obtain ⟨m, hm⟩ := h4; exact DataW.trod_lt m _ _ _ hm
  obtain ⟨x4, y4, z4⟩ := arg_open (k := 400) (t := 23) (by kernel_rfl) h4 (weightsEach_get hsz 4 23 d4 rfl rfl) (hval 4 23 v4 rfl rfl)
  clear hA0 hval0 hsz0 hsz
  have hG : GlobOk (k0 W) W := globOk_of (by
    intro k ds hk j d hd
    have hk : globT k = some ds := hk
    unfold globT at hk
    split at hk
    · injection hk with hk; subst hk
      unfold asciiSpaceD at hd
      rw [List.getElem?_map, Option.map_eq_some_iff] at hd
      obtain ⟨v, hv, rfl⟩ := hd
      exact ⟨_, rfl, rfl, of_laid hL j v hv⟩
    · cases hk)
  refine (calls_of_comp (names16_typed y0 y1 y2 y3 y4) hG (xs := [v0, v1, v2, v3, v4]) (.cons z0 (argV_under _ _ _) (.cons z1 (argV_under _ _ _) (.cons z2 (argV_under _ _ _) (.cons z3 (argV_under _ _ _) (.cons z4 (argV_under _ _ _) .nil)))))).mono fun e W' ⟨he, bel⟩ => ?_
  subst he
  exact ⟨_, rfl, _, _, _, [], _, [], hW', trodAll_mk1 (shut_bool Tryd.underlying4 _), (trodAll_cons_mk (Below.trod laidOut (by kernel_rfl) (of_decide_eq_true (by kernel_rfl)) h0 bel lt0) (trodAll_cons_mk (Below.trod laidOut (by kernel_rfl) (of_decide_eq_true (by kernel_rfl)) h1 bel lt1) (trodAll_cons_mk (Below.trod laidOut (by kernel_rfl) (of_decide_eq_true (by kernel_rfl)) h2 bel lt2) (trodAll_cons_mk (Below.trod laidOut (by kernel_rfl) (of_decide_eq_true (by kernel_rfl)) h3 bel lt3) (trodAll_cons_mk (Below.trod laidOut (by kernel_rfl) (of_decide_eq_true (by kernel_rfl)) h4 bel lt4) trodAll_mk0))))), rfl, bel.frame _, fun h => by cases h⟩
theorem over : Rows.bindNamesRow.holds Tryd.pinned (OpenSpec.ofChange Rows.bindNamesSpec) :=
  OpenClaim.holds_of_wide 3 Tryd.f3 rfl rfl rfl rfl rfl rfl rfl ⟨rfl, rfl, rfl, rfl, rfl⟩ rfl rfl rfl rfl rfl (by kernel_rfl) Tryd.func3 (by kernel_rfl)
    (of_decide_eq_true (by kernel_rfl)) (by unfold Func.isWrapper; first | (rw [if_pos (by decide +kernel)]; kernel_rfl) | (rw [if_neg (by decide +kernel)]; exact ⟨rfl, rfl⟩))
    (fun os started H enc _ => lifted os started H enc)
theorem card : Claim7.holds Tryd.pinned (.plain (OpenSpec.ofChange Rows.bindNamesSpec)) Rows.bindNamesCard :=
  Claim7.holds_tied_plain_at .later [] [.listed, .data] true (true, "821c0b2216257cd42171242f21e6ea1f277b245569fac1461c7a8013129b7b58") true
    over (fun _ h => by cases h) (by kernel_rfl) (fun _ h => by cases h) bindNames_row_tie rfl ⟨rfl, rfl⟩ (by kernel_rfl) rfl
    (fun f fn hf hfn => by
      obtain rfl : f = 3 := Option.some.inj ((show Tryd.prog.funcNamed "tipstaff/tipstafflaw16.BindNames" = some 3 by kernel_rfl).symm.trans hf) |>.symm
      obtain rfl : fn = Tryd.f3 := (Option.some.inj (Tryd.func3.symm.trans hfn)).symm
      exact ⟨by kernel_rfl, fun j t ht => by
        rw [Tryd.params3] at ht
        have hm : t ∈ [9, 3, 3, 22, 23] := by simpa using Array.mem_of_getElem? ht
        have hall : ([9, 3, 3, 22, 23].all fun u => !Tryd.prog.wantsStandIn u) = true := by kernel_rfl
        exact (show Tryd.prog.wantsStandIn t = false by simpa using List.all_eq_true.1 hall t hm)⟩)
    (by kernel_rfl)
end Go.Proofs.YtjjhckmnnaafkaaDoor.bindNames
namespace Go.Proofs.YtjjhckmnnaafkaaDoor
/-- The card, under a short name, for the claim. -/
theorem bindNames_holds : Rows.BindNamesCardSaid := bindNames.card
#print axioms bindNames_holds
end Go.Proofs.YtjjhckmnnaafkaaDoor
