/-
 'LeafExamplesCardSaid' is proved: whatever the input, the law LeafExamples returns true, and its input reads behind the call as it read before, where the tables that the program names hold what the program's text lays; the card ties that. No condition beyond.
-/
import Derived.Test.YtejhjijbgceklaaGreatDoorGrpU
import Derived.Test.YtejhjijbgceklaaGreatDoorOpenM
import Derived.Test.YtejhjijbgceklaaGreatDoorCkKeys
import Derived.Test.YtejhjijbgceklaaGreatDoorRows
import Derived.Test.YtejhjijbgceklaaGreatDoorCards
import Derived.Test.YtejhjijbgceklaaGreatDoorTie
import Derived.Test.YtejhjijbgceklaaGreatDoorTrod
import Derived.LaidMore
import Derived.Stop.Joined
import Derived.SevenTiedAt
import Derived.JoinedOf
import Derived.Handed
namespace Go.Proofs.YtejhjijbgceklaaGreatDoor
open Go.ChangeShapes Go.WideShapes Go.ChangeAt Go.RowKit Go.AB
open Go.AB.Enc (cells)
open Go.PB (Chap TextD PlaceD ReadingD CopyD WayD)

abbrev laidX : List (String × DataW Unit) := [("math/bits.deBruijn32tab", Rows.laid_math_bits_deBruijn32tab), ("math/bits.deBruijn64tab", Rows.laid_math_bits_deBruijn64tab), ("internal/strconv.uint64pow10", Rows.laid_internal_strconv_uint64pow10), ("postil/leaf.kinds", Rows.laid_postil_leaf_kinds)]
set_option maxRecDepth 100000 in
theorem door_metX (os : Os) (args : Array Value) : laidMetH Tryz.prog laidX ((World.doorLaid Tryz.prog 600 os).forCall (fun _ _ => 0) ⟨#[], args, []⟩).memory :=
 laidMetH_of_parts3 (fuel := 8) (laidMet_of_run' 8 (by kernel_rfl) (by kernel_rfl)) (by kernel_rfl) (by kernel_rfl)
theorem kinds_of_laidX {W : World} (h : laidMetH Tryz.prog laidX W) : R (allE W) W (.elem kndL) (.pointer (some ⟨0, 0, none⟩)) := kinds_of_funcs (h.funcs (List.mem_cons_of_mem _ (List.mem_cons_of_mem _ (List.mem_cons_of_mem _ (List.mem_cons_self ..)))))
set_option maxRecDepth 100000 in
theorem examplessLifted (os : Os) (started : os.Started) (H : Type) (enc : TypeId × Value → H) :
  ReturnsInHanded {} Tryz.checked os 7 .any (fun w args => (Rows.leafExamplesSpec.pre enc Tryz.prog Tryz.f7 [] false w args ∧ laidMetH Tryz.prog laidX w) ∧ sizedMet enc Tryz.prog Tryz.f7 (OpenSpec.ofChange Rows.leafExamplesSpec) false w args)
   (Rows.leafExamplesSpec.post enc Tryz.prog Tryz.f7 false true false false) := by
 refine returnsInHanded_of_change_and (C := Tryz.checked) (X := fun w _ => laidMetH Tryz.prog laidX w) (fun _ _ _ hh h => h.of_heap hh) ownZ started (by kernel_rfl) Tryz.func7
  (ChangeSpec.witness_shaped (enc := enc) (C := Tryz.checked) (os := os) (X := fun w _ => laidMetH Tryz.prog laidX w) false (World.doorLaid Tryz.prog 600 os) #[] 8 rfl (World.shaped_of_RefB (by kernel_rfl) (by kernel_rfl)) (by kernel_rfl) (by kernel_rfl) (by kernel_rfl) (door_metX os _)) ?_
 intro W base args ds gs before hval0 hW _ _ hL _
 have hval : ∀ (j : Nat) t v, Tryz.f7.params[j]? = some t → args[j]? = some v → Value.okWide Tryz.prog W .any base t v := hval0
 have hW' := hW
 obtain ⟨p, q, hA0, hV, rfl, hfz, hnd⟩ := hW
 have hA : DataW.TrodAll enc Tryz.prog W 0 (fun _ => true) true Tryz.f7.params.toList args.toList ds p := hA0
 rw [Tryz.params7] at hA hval
 obtain ⟨hargs, rfl, rfl⟩ := trodAll_nil hA
 obtain rfl : args = #[] := by simpa using hargs
 obtain ⟨rfl, rfl⟩ := trodVars_none hV
 refine (law_callsN examples_pureN (kinds_of_laidX hL) (args := []) (Rs.nil)).mono fun e W' ⟨he, hB⟩ => ?_
 subst he
 have hlt := hW'.lt
 refine ⟨_, rfl, _, _, _, [], _, [], hW', trodAll_mk1 (shut_bool boolOk _), (by first | trivial | exact ⟨rfl, rfl⟩ | exact rfl | simp [DataW.TrodAll]), rfl, hB.frame _, fun h => by cases h⟩

theorem examplessRow : Rows.LeafExamplesSaid :=
 OpenClaim.holds_of_wide 7 Tryz.f7 rfl rfl rfl rfl rfl rfl rfl ⟨rfl, rfl, rfl, rfl, rfl⟩ rfl rfl rfl rfl rfl (by kernel_rfl) Tryz.func7 (by kernel_rfl)
  (of_decide_eq_true (by kernel_rfl)) (by unfold Func.isWrapper; first | (rw [if_pos (by decide +kernel)]; kernel_rfl) | (rw [if_neg (by decide +kernel)]; exact ⟨rfl, rfl⟩))
  (fun os started H enc _ => examplessLifted os started H enc)
theorem exampless : Rows.LeafExamplesCardSaid :=
 Claim7.holds_tied_plain_at .later [] [.data, .data, .data, .funcs] true Rows.leafExamplesCard.stood.harness false
  examplessRow (fun _ h => by cases h) (by kernel_rfl) (fun _ h => by cases h) leafExamples_row_tie rfl ⟨rfl, rfl⟩ (by kernel_rfl) rfl
  (fun f fn hf hfn => by
   obtain rfl : f = 7 := Option.some.inj ((show Tryz.prog.funcNamed "postil/postillaw01.LeafExamples" = some 7 by kernel_rfl).symm.trans hf) |>.symm
   obtain rfl : fn = Tryz.f7 := (Option.some.inj (Tryz.func7.symm.trans hfn)).symm
   exact ⟨by kernel_rfl, fun j t ht => by
    rw [Tryz.params7] at ht
    simp at ht⟩)
  (by kernel_rfl)
#print axioms exampless
end Go.Proofs.YtejhjijbgceklaaGreatDoor
