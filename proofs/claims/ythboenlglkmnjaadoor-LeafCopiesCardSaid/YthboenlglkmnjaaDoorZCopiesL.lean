/-
 'LeafCopiesCardSaid' is proved: whatever the input, the law LeafCopies returns true, and its input reads behind the call as it read before, where the table that the program reads holds what the program's text lays; the card ties that. No condition beyond.
-/
import Derived.Test.YthboenlglkmnjaaDoorPartF
import Derived.Test.YthboenlglkmnjaaDoorPartB
import Derived.Test.YthboenlglkmnjaaDoorRows
import Derived.Test.YthboenlglkmnjaaDoorCards
import Derived.Test.YthboenlglkmnjaaDoorTie
import Derived.LaidMore
import Derived.Stop.Joined
import Derived.SevenTiedAt
import Derived.JoinedOf
import Derived.Handed
namespace Go.Proofs.YthboenlglkmnjaaDoor
open Go.ChangeShapes Go.WideShapes Go.ChangeAt Go.RowKit Go.AB
open Go.AB.Enc (cells)
open Go.PB (Chap bd PlaceD bh CopyD bw)

set_option maxRecDepth 100000 in
theorem uee (os : Os) (started : os.Started) (H : Type) (enc : TypeId × Value → H) :
  ReturnsInHanded {} Tryd.checked os 3 .any (fun w args => (Rows.leafCopiesSpec.pre enc Tryd.prog Tryd.f3 [] false w args ∧ laidMetH Tryd.prog oc w) ∧ sizedMet enc Tryd.prog Tryd.f3 (OpenSpec.ofChange Rows.leafCopiesSpec) false w args)
   (Rows.leafCopiesSpec.post enc Tryd.prog Tryd.f3 false true false false) := by
 refine returnsInHanded_of_change_and (C := Tryd.checked) (X := fun w _ => laidMetH Tryd.prog oc w) (fun _ _ _ hh h => h.of_heap hh) ownZ started (by kernel_rfl) Tryd.func3
  (ChangeSpec.witness_shaped (enc := enc) (C := Tryd.checked) (os := os) (X := fun w _ => laidMetH Tryd.prog oc w) false (World.doorLaid Tryd.prog 600 os) #[.agg #[.slice none 0 0], .agg #[.int .i64 0, .slice none 0 0], .agg #[.int .i64 0, .int .i64 0, .int .i64 0], .slice none 0 0] 8 rfl (World.shaped_of_RefB (by kernel_rfl) (by kernel_rfl)) (by kernel_rfl) (by kernel_rfl) (by kernel_rfl) (ueb os _)) ?_
 intro W base args ds gs before hval0 hW _ _ hL _
 have hval : ∀ (j : Nat) t v, Tryd.f3.params[j]? = some t → args[j]? = some v → Value.okWide Tryd.prog W .any base t v := hval0
 have hW' := hW
 obtain ⟨p, q, hA0, hV, rfl, hfz, hnd⟩ := hW
 have hA : DataW.TrodAll enc Tryd.prog W 0 (fun _ => true) true Tryd.f3.params.toList args.toList ds p := hA0
 rw [Tryd.params3] at hA hval
 obtain ⟨v0, v1, v2, v3, d0, d1, d2, d3, p0, p1, p2, p3, rfl, rfl, rfl, h0, h1, h2, h3⟩ := trodAll_four hA
 obtain ⟨rfl, rfl⟩ := trodVars_none hV
 obtain ⟨x0, r0⟩ := OpensE.arg (α := List Chap) t7 (hval 0 _ v0 rfl rfl) h0
 obtain ⟨x1, r1⟩ := OpensE.arg (α := CopyD) yb (hval 1 _ v1 rfl rfl) h1
 obtain ⟨x2, r2⟩ := OpensE.arg (α := PlaceD) vo (hval 2 _ v2 rfl rfl) h2
 obtain ⟨x3, r3⟩ := OpensE.argList (α := CopyD) ueg (hval 3 _ v3 rfl rfl) h3
 refine (ucv (uef x0 x1 x2 x3) (ucx hL) (args := [_, _, _, _]) (Rs.cons r0 (Rs.cons r1 (Rs.cons r2 (Rs.cons r3 Rs.nil))))).mono fun e W' ⟨he, hB⟩ => ?_
 subst he
 have hlt := hW'.lt
 have hr10 : Tryd.prog.readableRec 24 = true := by kernel_rfl
 have hn10 : 24 < Tryd.prog.types.size := of_decide_eq_true (by kernel_rfl)
 have hr11 : Tryd.prog.readableRec 27 = true := by kernel_rfl
 have hn11 : 27 < Tryd.prog.types.size := of_decide_eq_true (by kernel_rfl)
 have hr12 : Tryd.prog.readableRec 29 = true := by kernel_rfl
 have hn12 : 29 < Tryd.prog.types.size := of_decide_eq_true (by kernel_rfl)
 have hr13 : Tryd.prog.readableRec 30 = true := by kernel_rfl
 have hn13 : 30 < Tryd.prog.types.size := of_decide_eq_true (by kernel_rfl)
 refine ⟨_, rfl, _, _, _, [], _, [], hW', trodAll_mk1 (shut_bool uer _), trodAll_mk4 (Below.trod oa hr10 hn10 h0 hB fun x hx => hlt x (by simp [hx])) (Below.trod oa hr11 hn11 h1 hB fun x hx => hlt x (by simp [hx])) (Below.trod oa hr12 hn12 h2 hB fun x hx => hlt x (by simp [hx])) (Below.trod oa hr13 hn13 h3 hB fun x hx => hlt x (by simp [hx])), rfl, hB.frame _, fun h => by cases h⟩

theorem ued : Rows.LeafCopiesSaid :=
 OpenClaim.holds_of_wide 3 Tryd.f3 rfl rfl rfl rfl rfl rfl rfl ⟨rfl, rfl, rfl, rfl, rfl⟩ rfl rfl rfl rfl rfl (by kernel_rfl) Tryd.func3 (by kernel_rfl)
  (of_decide_eq_true (by kernel_rfl)) (by unfold Func.isWrapper; first | (rw [if_pos (by decide +kernel)]; kernel_rfl) | (rw [if_neg (by decide +kernel)]; exact ⟨rfl, rfl⟩))
  (fun os started H enc _ => uee os started H enc)
theorem copiesss : Rows.LeafCopiesCardSaid :=
 Claim7.holds_tied_plain_at .later [] [.funcs] true Rows.leafCopiesCard.stood.harness false
  ued (fun _ h => by cases h) (by kernel_rfl) (fun _ h => by cases h) leafCopies_row_tie rfl ⟨rfl, rfl⟩ (by kernel_rfl) rfl
  (fun f fn hf hfn => by
   obtain rfl : f = 3 := Option.some.inj ((show Tryd.prog.funcNamed "postil/postillaw01.LeafCopies" = some 3 by kernel_rfl).symm.trans hf) |>.symm
   obtain rfl : fn = Tryd.f3 := (Option.some.inj (Tryd.func3.symm.trans hfn)).symm
   exact ⟨by kernel_rfl, fun j t ht => by
    rw [Tryd.params3] at ht
    have hm : t ∈ [24, 27, 29, 30] := by simpa using Array.mem_of_getElem? ht
    have hall : ([24, 27, 29, 30].all fun u => !Tryd.prog.wantsStandIn u) = true := by kernel_rfl
    exact (show Tryd.prog.wantsStandIn t = false by simpa using List.all_eq_true.1 hall t hm)⟩)
  (by kernel_rfl)
#print axioms copiesss
end Go.Proofs.YthboenlglkmnjaaDoor
