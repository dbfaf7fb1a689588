/-
 'ChartSplitCardSaid' is proved: whatever the input, the law ChartSplit returns true, and its input reads behind the call as it read before, where the table that the program reads holds what the program's text lays; the card ties that. No condition beyond.
-/
import Derived.Test.YtjjklfgpffgnfaaGreatDoorGrSplit
import Derived.Test.YtjjklfgpffgnfaaGreatDoorOpenP
import Derived.Test.YtjjklfgpffgnfaaGreatDoorGrpG
import Derived.Test.YtjjklfgpffgnfaaGreatDoorRows
import Derived.Test.YtjjklfgpffgnfaaGreatDoorCards
import Derived.Test.YtjjklfgpffgnfaaGreatDoorTie
import Derived.Test.YtjjklfgpffgnfaaGreatDoorTrodB
import Derived.LaidMore
import Derived.Stop.Joined
import Derived.SevenTiedAt
import Derived.JoinedOf
import Derived.Handed
namespace Go.Proofs.YtjjklfgpffgnfaaGreatDoor
open Go.ChangeShapes Go.WideShapes Go.ChangeAt Go.RowKit Go.AB
open Go.AB.Enc (cells)
open Go.PB (Chap TextD PlaceD ReadingD CopyD WayD)

set_option maxRecDepth 100000 in
theorem splitsLifted (os : Os) (started : os.Started) (H : Type) (enc : TypeId × Value → H) :
  ReturnsInHanded {} Tryz.checked os 10 .any (fun w args => (Rows.chartSplitSpec.pre enc Tryz.prog Tryz.f10 [] false w args ∧ laidMetH Tryz.prog laidC w) ∧ sizedMet enc Tryz.prog Tryz.f10 (OpenSpec.ofChange Rows.chartSplitSpec) false w args)
   (Rows.chartSplitSpec.post enc Tryz.prog Tryz.f10 false true false false) := by
 refine returnsInHanded_of_change_and (C := Tryz.checked) (X := fun w _ => laidMetH Tryz.prog laidC w) (fun _ _ _ hh h => h.of_heap hh) ownZ started (by kernel_rfl) Tryz.func10
  (ChangeSpec.witness_shaped (enc := enc) (C := Tryz.checked) (os := os) (X := fun w _ => laidMetH Tryz.prog laidC w) false (World.doorLaid Tryz.prog 600 os) #[.agg #[.slice none 0 0], .agg #[.int .i64 0, .slice none 0 0], .int .i64 0, .int .i64 0, .int .i64 0, .int .u8 0, .int .u8 0, .int .u8 0] 8 rfl (World.shaped_of_RefB (by kernel_rfl) (by kernel_rfl)) (by kernel_rfl) (by kernel_rfl) (by kernel_rfl) (door_metC os _)) ?_
 intro W base args ds gs before hval0 hW _ _ hL _
 have hval : ∀ (j : Nat) t v, Tryz.f10.params[j]? = some t → args[j]? = some v → Value.okWide Tryz.prog W .any base t v := hval0
 have hW' := hW
 obtain ⟨p, q, hA0, hV, rfl, hfz, hnd⟩ := hW
 have hA : DataW.TrodAll enc Tryz.prog W 0 (fun _ => true) true Tryz.f10.params.toList args.toList ds p := hA0
 rw [Tryz.params10] at hA hval
 obtain ⟨v0, v1, v2, v3, v4, v5, v6, v7, d0, d1, d2, d3, d4, d5, d6, d7, p0, p1, p2, p3, p4, p5, p6, p7, rfl, rfl, rfl, h0, h1, h2, h3, h4, h5, h6, h7⟩ := trodAll_eight hA
 obtain ⟨rfl, rfl⟩ := trodVars_none hV
 obtain ⟨x0, r0⟩ := OpensE.arg (α := List Chap) textStc (hval 0 _ v0 rfl rfl) h0
 obtain ⟨x1, r1⟩ := OpensE.arg (α := EditionD) editionStc (hval 1 _ v1 rfl rfl) h1
 obtain ⟨x2, r2⟩ := OpensE.argInt intOk (hval 2 _ v2 rfl rfl) h2
 obtain ⟨x3, r3⟩ := OpensE.argInt intOk (hval 3 _ v3 rfl rfl) h3
 obtain ⟨x4, r4⟩ := OpensE.argInt intOk (hval 4 _ v4 rfl rfl) h4
 obtain ⟨x5, r5⟩ := OpensE.argU8 u8Ok (hval 5 _ v5 rfl rfl) h5
 obtain ⟨x6, r6⟩ := OpensE.argU8 u8Ok (hval 6 _ v6 rfl rfl) h6
 obtain ⟨x7, r7⟩ := OpensE.argU8 u8Ok (hval 7 _ v7 rfl rfl) h7
 refine (law_callsF (splitLaw_pureF x0 x1 x2 x3 x4 x5 x6 x7) (checks_of_laid hL) (args := [_, _, _, _, _, _, _, _]) (Rs.cons r0 (Rs.cons r1 (Rs.cons r2 (Rs.cons r3 (Rs.cons r4 (Rs.cons r5 (Rs.cons r6 (Rs.cons r7 Rs.nil))))))))).mono fun e W' ⟨he, hB⟩ => ?_
 subst he
 have hlt := hW'.lt
 have hr10 : Tryz.prog.readableRec 24 = true := by kernel_rfl
 have hn10 : 24 < Tryz.prog.types.size := of_decide_eq_true (by kernel_rfl)
 have hr11 : Tryz.prog.readableRec 27 = true := by kernel_rfl
 have hn11 : 27 < Tryz.prog.types.size := of_decide_eq_true (by kernel_rfl)
 have hr12 : Tryz.prog.readableRec 3 = true := by kernel_rfl
 have hn12 : 3 < Tryz.prog.types.size := of_decide_eq_true (by kernel_rfl)
 have hr13 : Tryz.prog.readableRec 5 = true := by kernel_rfl
 have hn13 : 5 < Tryz.prog.types.size := of_decide_eq_true (by kernel_rfl)
 refine ⟨_, rfl, _, _, _, [], _, [], hW', trodAll_mk1 (shut_bool boolOk _), trodAll_mk8 (Below.trod laidOutK hr10 hn10 h0 hB fun x hx => hlt x (by simp [hx])) (Below.trod laidOutK hr11 hn11 h1 hB fun x hx => hlt x (by simp [hx])) (Below.trod laidOutK hr12 hn12 h2 hB fun x hx => hlt x (by simp [hx])) (Below.trod laidOutK hr12 hn12 h3 hB fun x hx => hlt x (by simp [hx])) (Below.trod laidOutK hr12 hn12 h4 hB fun x hx => hlt x (by simp [hx])) (Below.trod laidOutK hr13 hn13 h5 hB fun x hx => hlt x (by simp [hx])) (Below.trod laidOutK hr13 hn13 h6 hB fun x hx => hlt x (by simp [hx])) (Below.trod laidOutK hr13 hn13 h7 hB fun x hx => hlt x (by simp [hx])), rfl, hB.frame _, fun h => by cases h⟩

theorem splitsRow : Rows.ChartSplitSaid :=
 OpenClaim.holds_of_wide 10 Tryz.f10 rfl rfl rfl rfl rfl rfl rfl ⟨rfl, rfl, rfl, rfl, rfl⟩ rfl rfl rfl rfl rfl (by kernel_rfl) Tryz.func10 (by kernel_rfl)
  (of_decide_eq_true (by kernel_rfl)) (by unfold Func.isWrapper; first | (rw [if_pos (by decide +kernel)]; kernel_rfl) | (rw [if_neg (by decide +kernel)]; exact ⟨rfl, rfl⟩))
  (fun os started H enc _ => splitsLifted os started H enc)
theorem splits : Rows.ChartSplitCardSaid :=
 Claim7.holds_tied_plain_at .later [] [.funcs] true Rows.chartSplitCard.stood.harness false
  splitsRow (fun _ h => by cases h) (by kernel_rfl) (fun _ h => by cases h) chartSplit_row_tie rfl ⟨rfl, rfl⟩ (by kernel_rfl) rfl
  (fun f fn hf hfn => by
   obtain rfl : f = 10 := Option.some.inj ((show Tryz.prog.funcNamed "postil/postillaw02.ChartSplit" = some 10 by kernel_rfl).symm.trans hf) |>.symm
   obtain rfl : fn = Tryz.f10 := (Option.some.inj (Tryz.func10.symm.trans hfn)).symm
   exact ⟨by kernel_rfl, fun j t ht => by
    rw [Tryz.params10] at ht
    have hm : t ∈ [24, 27, 3, 5] := by simpa using Array.mem_of_getElem? ht
    have hall : ([24, 27, 3, 5].all fun u => !Tryz.prog.wantsStandIn u) = true := by kernel_rfl
    exact (show Tryz.prog.wantsStandIn t = false by simpa using List.all_eq_true.1 hall t hm)⟩)
  (by kernel_rfl)
#print axioms splits
end Go.Proofs.YtjjklfgpffgnfaaGreatDoor
