/-
 'ChartClashCardSaid' is proved: whatever the input, the law ChartClash returns true, and its input reads behind the call as it read before, where the table that the program reads holds what the program's text lays; the card ties that. No condition beyond.
-/
import Derived.Test.YtjjklfgpffgnfaaGreatDoorHjClash
import Derived.Test.YtjjklfgpffgnfaaGreatDoorOpenP
import Derived.Test.YtjjklfgpffgnfaaGreatDoorGrpG
import Derived.Test.YtjjklfgpffgnfaaGreatDoorRows
import Derived.Test.YtjjklfgpffgnfaaGreatDoorCards
import Derived.Test.YtjjklfgpffgnfaaGreatDoorTie
import Derived.Test.YtjjklfgpffgnfaaGreatDoorTrod
import Derived.LaidMore
import Derived.Stop.Joined
import Derived.SevenTiedAt
import Derived.JoinedOf
import Derived.Handed
namespace Go.Proofs.YtjjklfgpffgnfaaGreatDoor
open Go.ChangeShapes Go.WideShapes Go.ChangeAt Go.RowKit Go.AB
open Go.AB.Enc (cells)
open Go.PB (bv ai PlaceD cy c6 cz)

set_option maxRecDepth 100000 in
theorem ukv (os : Os) (started : os.Started) (H : Type) (enc : TypeId × Value → H) :
  ReturnsInHanded {} Tryz.checked os 11 .any (fun w args => (Rows.chartClashSpec.pre enc Tryz.prog Tryz.f11 [] false w args ∧ laidMetH Tryz.prog ri w) ∧ sizedMet enc Tryz.prog Tryz.f11 (OpenSpec.ofChange Rows.chartClashSpec) false w args)
   (Rows.chartClashSpec.post enc Tryz.prog Tryz.f11 false true false false) := by
 refine returnsInHanded_of_change_and (C := Tryz.checked) (X := fun w _ => laidMetH Tryz.prog ri w) (fun _ _ _ hh h => h.of_heap hh) ownZ started (by kernel_rfl) Tryz.func11
  (ChangeSpec.witness_shaped (enc := enc) (C := Tryz.checked) (os := os) (X := fun w _ => laidMetH Tryz.prog ri w) false (World.doorLaid Tryz.prog 600 os) #[.agg #[.slice none 0 0], .agg #[.int .i64 0, .slice none 0 0], .agg #[.int .i64 0, .int .i64 0, .int .i64 0]] 8 rfl (World.shaped_of_RefB (by kernel_rfl) (by kernel_rfl)) (by kernel_rfl) (by kernel_rfl) (by kernel_rfl) (uj9 os _)) ?_
 intro W base args ds gs before hval0 hW _ _ hL _
 have hval : ∀ (j : Nat) t v, Tryz.f11.params[j]? = some t → args[j]? = some v → Value.okWide Tryz.prog W .any base t v := hval0
 have hW' := hW
 obtain ⟨p, q, hA0, hV, rfl, hfz, hnd⟩ := hW
 have hA : DataW.TrodAll enc Tryz.prog W 0 (fun _ => true) true Tryz.f11.params.toList args.toList ds p := hA0
 rw [Tryz.params11] at hA hval
 obtain ⟨v0, v1, v2, d0, d1, d2, p0, p1, p2, rfl, rfl, rfl, h0, h1, h2⟩ := trodAll_three hA
 obtain ⟨rfl, rfl⟩ := trodVars_none hV
 obtain ⟨x0, r0⟩ := OpensE.arg (α := List bv) yi (hval 0 _ v0 rfl rfl) h0
 obtain ⟨x1, r1⟩ := OpensE.arg (α := av) ubz (hval 1 _ v1 rfl rfl) h1
 obtain ⟨x2, r2⟩ := OpensE.arg (α := PlaceD) zd (hval 2 _ v2 rfl rfl) h2
 refine (uh0 (ukw x0 x1 x2) (uk4 hL) (args := [_, _, _]) (Rs.cons r0 (Rs.cons r1 (Rs.cons r2 Rs.nil)))).mono fun e W' ⟨he, hB⟩ => ?_
 subst he
 have hlt := hW'.lt
 have hr10 : Tryz.prog.readableRec 24 = true := by kernel_rfl
 have hn10 : 24 < Tryz.prog.types.size := of_decide_eq_true (by kernel_rfl)
 have hr11 : Tryz.prog.readableRec 27 = true := by kernel_rfl
 have hn11 : 27 < Tryz.prog.types.size := of_decide_eq_true (by kernel_rfl)
 have hr12 : Tryz.prog.readableRec 32 = true := by kernel_rfl
 have hn12 : 32 < Tryz.prog.types.size := of_decide_eq_true (by kernel_rfl)
 refine ⟨_, rfl, _, _, _, [], _, [], hW', trodAll_mk1 (shut_bool uly _), trodAll_mk3 (Below.trod rh hr10 hn10 h0 hB fun x hx => hlt x (by simp [hx])) (Below.trod rh hr11 hn11 h1 hB fun x hx => hlt x (by simp [hx])) (Below.trod rh hr12 hn12 h2 hB fun x hx => hlt x (by simp [hx])), rfl, hB.frame _, fun h => by cases h⟩

theorem uku : Rows.ChartClashSaid :=
 OpenClaim.holds_of_wide 11 Tryz.f11 rfl rfl rfl rfl rfl rfl rfl ⟨rfl, rfl, rfl, rfl, rfl⟩ rfl rfl rfl rfl rfl (by kernel_rfl) Tryz.func11 (by kernel_rfl)
  (of_decide_eq_true (by kernel_rfl)) (by unfold Func.isWrapper; first | (rw [if_pos (by decide +kernel)]; kernel_rfl) | (rw [if_neg (by decide +kernel)]; exact ⟨rfl, rfl⟩))
  (fun os started H enc _ => ukv os started H enc)
theorem clashess : Rows.ChartClashCardSaid :=
 Claim7.holds_tied_plain_at .later [] [.funcs] true Rows.chartClashCard.stood.harness false
  uku (fun _ h => by cases h) (by kernel_rfl) (fun _ h => by cases h) chartClash_row_tie rfl ⟨rfl, rfl⟩ (by kernel_rfl) rfl
  (fun f fn hf hfn => by
   obtain rfl : f = 11 := Option.some.inj ((show Tryz.prog.funcNamed "postil/postillaw02.ChartClash" = some 11 by kernel_rfl).symm.trans hf) |>.symm
   obtain rfl : fn = Tryz.f11 := (Option.some.inj (Tryz.func11.symm.trans hfn)).symm
   exact ⟨by kernel_rfl, fun j t ht => by
    rw [Tryz.params11] at ht
    have hm : t ∈ [24, 27, 32] := by simpa using Array.mem_of_getElem? ht
    have hall : ([24, 27, 32].all fun u => !Tryz.prog.wantsStandIn u) = true := by kernel_rfl
    exact (show Tryz.prog.wantsStandIn t = false by simpa using List.all_eq_true.1 hall t hm)⟩)
  (by kernel_rfl)
#print axioms clashess
end Go.Proofs.YtjjklfgpffgnfaaGreatDoor
