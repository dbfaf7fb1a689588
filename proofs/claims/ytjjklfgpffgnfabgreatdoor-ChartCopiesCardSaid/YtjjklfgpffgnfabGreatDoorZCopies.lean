/-
 'ChartCopiesCardSaid' is proved: whatever the input, the law ChartCopies returns true, and its input reads behind the call as it read before, where the two tables that the program reads hold what the program's text lays; the card ties that. No condition beyond.
-/
import Derived.Test.YtjjklfgpffgnfabGreatDoorHhCopies
import Derived.Test.YtjjklfgpffgnfabGreatDoorOpenR
import Derived.Test.YtjjklfgpffgnfabGreatDoorOpenP
import Derived.Test.YtjjklfgpffgnfabGreatDoorGrpG
import Derived.Test.YtjjklfgpffgnfabGreatDoorRows
import Derived.Test.YtjjklfgpffgnfabGreatDoorCards
import Derived.Test.YtjjklfgpffgnfabGreatDoorTie
import Derived.Test.YtjjklfgpffgnfabGreatDoorTrod
import Derived.LaidMore
import Derived.Stop.Joined
import Derived.SevenTiedAt
import Derived.JoinedOf
import Derived.Handed
namespace Go.Proofs.YtjjklfgpffgnfabGreatDoor
open Go.ChangeShapes Go.WideShapes Go.ChangeAt Go.RowKit Go.AB
open Go.AB.Enc (cells)
open Go.PB (bh af PlaceD ar bp cj)

set_option maxRecDepth 100000 in
theorem uol (os : Os) (started : os.Started) (H : Type) (enc : TypeId × Value → H) :
  ReturnsInHanded {} Tryz.checked os 5 .any (fun w args => (Rows.chartCopiesSpec.pre enc Tryz.prog Tryz.f5 [] false w args ∧ laidMetH Tryz.prog qt w) ∧ sizedMet enc Tryz.prog Tryz.f5 (OpenSpec.ofChange Rows.chartCopiesSpec) false w args)
   (Rows.chartCopiesSpec.post enc Tryz.prog Tryz.f5 false true false false) := by
 refine returnsInHanded_of_change_and (C := Tryz.checked) (X := fun w _ => laidMetH Tryz.prog qt w) (fun _ _ _ hh h => h.of_heap hh) ownZ started (by kernel_rfl) Tryz.func5
  (ChangeSpec.witness_shaped (enc := enc) (C := Tryz.checked) (os := os) (X := fun w _ => laidMetH Tryz.prog qt w) false (World.doorLaid Tryz.prog 600 os) #[.agg #[.slice none 0 0], .agg #[.int .i64 0, .slice none 0 0], .agg #[.int .i64 0, .slice none 0 0], .int .u8 0, .int .u8 0] 8 rfl (World.shaped_of_RefB (by kernel_rfl) (by kernel_rfl)) (by kernel_rfl) (by kernel_rfl) (by kernel_rfl) (un8 os _)) ?_
 intro W base args ds gs before hval0 hW _ _ hL _
 have hval : ∀ (j : Nat) t v, Tryz.f5.params[j]? = some t → args[j]? = some v → Value.okWide Tryz.prog W .any base t v := hval0
 have hW' := hW
 obtain ⟨p, q, hA0, hV, rfl, hfz, hnd⟩ := hW
 have hA : DataW.TrodAll enc Tryz.prog W 0 (fun _ => true) true Tryz.f5.params.toList args.toList ds p := hA0
 rw [Tryz.params5] at hA hval
 obtain ⟨v0, v1, v2, v3, v4, d0, d1, d2, d3, d4, p0, p1, p2, p3, p4, rfl, rfl, rfl, h0, h1, h2, h3, h4⟩ := ugn hA
 obtain ⟨rfl, rfl⟩ := trodVars_none hV
 obtain ⟨x0, r0⟩ := OpensE.arg (α := List bh) uac (hval 0 _ v0 rfl rfl) h0
 obtain ⟨x1, r1⟩ := OpensE.arg (α := aw) ud1 (hval 1 _ v1 rfl rfl) h1
 obtain ⟨x2, r2⟩ := OpensE.arg (α := bp) uei (hval 2 _ v2 rfl rfl) h2
 obtain ⟨x3, r3⟩ := OpensE.argU8 u8Ok (hval 3 _ v3 rfl rfl) h3
 obtain ⟨x4, r4⟩ := OpensE.argU8 u8Ok (hval 4 _ v4 rfl rfl) h4
 refine (ulq (uom x0 x1 x2 x3 x4) (uo3 hL) (ulw hL) (args := [_, _, _, _, _]) (Rs.cons r0 (Rs.cons r1 (Rs.cons r2 (Rs.cons r3 (Rs.cons r4 Rs.nil)))))).mono fun e W' ⟨he, hB⟩ => ?_
 subst he
 have hlt := hW'.lt
 have hr10 : Tryz.prog.readableRec 34 = true := by kernel_rfl
 have hn10 : 34 < Tryz.prog.types.size := of_decide_eq_true (by kernel_rfl)
 have hr11 : Tryz.prog.readableRec 25 = true := by kernel_rfl
 have hn11 : 25 < Tryz.prog.types.size := of_decide_eq_true (by kernel_rfl)
 have hr12 : Tryz.prog.readableRec 72 = true := by kernel_rfl
 have hn12 : 72 < Tryz.prog.types.size := of_decide_eq_true (by kernel_rfl)
 have hr13 : Tryz.prog.readableRec 5 = true := by kernel_rfl
 have hn13 : 5 < Tryz.prog.types.size := of_decide_eq_true (by kernel_rfl)
 refine ⟨_, rfl, _, _, _, [], _, [], hW', trodAll_mk1 (shut_bool upx _), ugm (Below.trod ph hr10 hn10 h0 hB fun x hx => hlt x (by simp [hx])) (Below.trod ph hr11 hn11 h1 hB fun x hx => hlt x (by simp [hx])) (Below.trod ph hr12 hn12 h2 hB fun x hx => hlt x (by simp [hx])) (Below.trod ph hr13 hn13 h3 hB fun x hx => hlt x (by simp [hx])) (Below.trod ph hr13 hn13 h4 hB fun x hx => hlt x (by simp [hx])), rfl, hB.frame _, fun h => by cases h⟩

theorem uok : Rows.ChartCopiesSaid :=
 OpenClaim.holds_of_wide 5 Tryz.f5 rfl rfl rfl rfl rfl rfl rfl ⟨rfl, rfl, rfl, rfl, rfl⟩ rfl rfl rfl rfl rfl (by kernel_rfl) Tryz.func5 (by kernel_rfl)
  (of_decide_eq_true (by kernel_rfl)) (by unfold Func.isWrapper; first | (rw [if_pos (by decide +kernel)]; kernel_rfl) | (rw [if_neg (by decide +kernel)]; exact ⟨rfl, rfl⟩))
  (fun os started H enc _ => uol os started H enc)
theorem copiess : Rows.ChartCopiesCardSaid :=
 Claim7.holds_tied_plain_at .later [] [.funcs, .funcs] true Rows.chartCopiesCard.stood.harness false
  uok (fun _ h => by cases h) (by kernel_rfl) (fun _ h => by cases h) chartCopies_row_tie rfl ⟨rfl, rfl⟩ (by kernel_rfl) rfl
  (fun f fn hf hfn => by
   obtain rfl : f = 5 := Option.some.inj ((show Tryz.prog.funcNamed "postil/postillaw02.ChartCopies" = some 5 by kernel_rfl).symm.trans hf) |>.symm
   obtain rfl : fn = Tryz.f5 := (Option.some.inj (Tryz.func5.symm.trans hfn)).symm
   exact ⟨by kernel_rfl, fun j t ht => by
    rw [Tryz.params5] at ht
    have hm : t ∈ [34, 25, 72, 5] := by simpa using Array.mem_of_getElem? ht
    have hall : ([34, 25, 72, 5].all fun u => !Tryz.prog.wantsStandIn u) = true := by kernel_rfl
    exact (show Tryz.prog.wantsStandIn t = false by simpa using List.all_eq_true.1 hall t hm)⟩)
  (by kernel_rfl)
#print axioms copiess
end Go.Proofs.YtjjklfgpffgnfabGreatDoor
