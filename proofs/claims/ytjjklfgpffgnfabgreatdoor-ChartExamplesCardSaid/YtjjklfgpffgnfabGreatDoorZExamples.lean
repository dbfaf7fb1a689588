/-
 'ChartExamplesCardSaid' is proved: whatever the input, the law ChartExamples returns true, and its input reads behind the call as it read before, where the table that the program reads holds what the program's text lays; the card ties that. No condition beyond.
-/
import Derived.Test.YtjjklfgpffgnfabGreatDoorGuExamples
import Derived.Test.YtjjklfgpffgnfabGreatDoorOpenP
import Derived.Test.YtjjklfgpffgnfabGreatDoorGrpG
import Derived.Test.YtjjklfgpffgnfabGreatDoorRows
import Derived.Test.YtjjklfgpffgnfabGreatDoorCards
import Derived.Test.YtjjklfgpffgnfabGreatDoorTie
import Derived.Test.YtjjklfgpffgnfabGreatDoorTrod
import Derived.LaidMore
import Derived.Stop.Joined
import Derived.SevenTiedAt
import Derived.JoinedOf
import Derived.Handed
namespace Go.Proofs.YtjjklfgpffgnfabGreatDoor
open Go.ChangeShapes Go.WideShapes Go.ChangeAt Go.RowKit Go.AB
open Go.AB.Enc (cells)
open Go.PB (Chap TextD PlaceD ReadingD CopyD WayD)

set_option maxRecDepth 100000 in
theorem examplessLifted (os : Os) (started : os.Started) (H : Type) (enc : TypeId × Value → H) :
  ReturnsInHanded {} Tryz.checked os 3 .any (fun w args => (Rows.chartExamplesSpec.pre enc Tryz.prog Tryz.f3 [] false w args ∧ laidMetH Tryz.prog laidC w) ∧ sizedMet enc Tryz.prog Tryz.f3 (OpenSpec.ofChange Rows.chartExamplesSpec) false w args)
   (Rows.chartExamplesSpec.post enc Tryz.prog Tryz.f3 false true false false) := by
 refine returnsInHanded_of_change_and (C := Tryz.checked) (X := fun w _ => laidMetH Tryz.prog laidC w) (fun _ _ _ hh h => h.of_heap hh) ownZ started (by kernel_rfl) Tryz.func3
  (ChangeSpec.witness_shaped (enc := enc) (C := Tryz.checked) (os := os) (X := fun w _ => laidMetH Tryz.prog laidC w) false (World.doorLaid Tryz.prog 600 os) #[] 8 rfl (World.shaped_of_RefB (by kernel_rfl) (by kernel_rfl)) (by kernel_rfl) (by kernel_rfl) (by kernel_rfl) (door_metC os _)) ?_
 intro W base args ds gs before hval0 hW _ _ hL _
 have hval : ∀ (j : Nat) t v, Tryz.f3.params[j]? = some t → args[j]? = some v → Value.okWide Tryz.prog W .any base t v := hval0
 have hW' := hW
 obtain ⟨p, q, hA0, hV, rfl, hfz, hnd⟩ := hW
 have hA : DataW.TrodAll enc Tryz.prog W 0 (fun _ => true) true Tryz.f3.params.toList args.toList ds p := hA0
 rw [Tryz.params3] at hA hval
 obtain ⟨hargs, rfl, rfl⟩ := trodAll_nil hA
 obtain rfl : args = #[] := by simpa using hargs
 obtain ⟨rfl, rfl⟩ := trodVars_none hV
 refine (law_callsF (examples_pureF) (checks_of_laid hL) (args := []) (Rs.nil)).mono fun e W' ⟨he, hB⟩ => ?_
 subst he
 have hlt := hW'.lt
 refine ⟨_, rfl, _, _, _, [], _, [], hW', trodAll_mk1 (shut_bool boolOk _), (by first | trivial | exact ⟨rfl, rfl⟩ | exact rfl | simp [DataW.TrodAll]), rfl, hB.frame _, fun h => by cases h⟩

theorem examplessRow : Rows.ChartExamplesSaid :=
 OpenClaim.holds_of_wide 3 Tryz.f3 rfl rfl rfl rfl rfl rfl rfl ⟨rfl, rfl, rfl, rfl, rfl⟩ rfl rfl rfl rfl rfl (by kernel_rfl) Tryz.func3 (by kernel_rfl)
  (of_decide_eq_true (by kernel_rfl)) (by unfold Func.isWrapper; first | (rw [if_pos (by decide +kernel)]; kernel_rfl) | (rw [if_neg (by decide +kernel)]; exact ⟨rfl, rfl⟩))
  (fun os started H enc _ => examplessLifted os started H enc)
theorem exampless : Rows.ChartExamplesCardSaid :=
 Claim7.holds_tied_plain_at .later [] [.funcs] true Rows.chartExamplesCard.stood.harness false
  examplessRow (fun _ h => by cases h) (by kernel_rfl) (fun _ h => by cases h) chartExamples_row_tie rfl ⟨rfl, rfl⟩ (by kernel_rfl) rfl
  (fun f fn hf hfn => by
   obtain rfl : f = 3 := Option.some.inj ((show Tryz.prog.funcNamed "postil/postillaw02.ChartExamples" = some 3 by kernel_rfl).symm.trans hf) |>.symm
   obtain rfl : fn = Tryz.f3 := (Option.some.inj (Tryz.func3.symm.trans hfn)).symm
   exact ⟨by kernel_rfl, fun j t ht => by
    rw [Tryz.params3] at ht
    simp at ht⟩)
  (by kernel_rfl)
#print axioms exampless
end Go.Proofs.YtjjklfgpffgnfabGreatDoor

