/-
 'ProofChiefsCardSaid' is proved: whatever the input, the law ProofChiefs returns true, and its input reads behind the call as it read before, where the table that the program reads holds what the program's text lays; the card ties that. No condition beyond.
-/
import Derived.Test.YtgffhbbcpgdjjaaDoorPartF
import Derived.Test.YtgffhbbcpgdjjaaDoorPartB
import Derived.Test.YtgffhbbcpgdjjaaDoorRows
import Derived.Test.YtgffhbbcpgdjjaaDoorCards
import Derived.Test.YtgffhbbcpgdjjaaDoorTie
import Derived.LaidMore
import Derived.Stop.Joined
import Derived.SevenTiedAt
import Derived.JoinedOf
import Derived.Handed
namespace Go.Proofs.YtgffhbbcpgdjjaaDoor
open Go.ChangeShapes Go.WideShapes Go.ChangeAt Go.RowKit Go.AB
open Go.AB.Enc (cells)
open Go.PB (ay ak PlaceD bi bk bj bz av aq cy cx)

set_option maxRecDepth 100000 in
theorem ulr (os : Os) (started : os.Started) (H : Type) (enc : TypeId × Value → H) :
  ReturnsInHanded {} Tryd.checked os 4 .any (fun w args => (Rows.proofChiefsSpec.pre enc Tryd.prog Tryd.f4 [] false w args ∧ laidMetH Tryd.prog ta w) ∧ sizedMet enc Tryd.prog Tryd.f4 (OpenSpec.ofChange Rows.proofChiefsSpec) false w args)
   (Rows.proofChiefsSpec.post enc Tryd.prog Tryd.f4 false true false false) := by
 refine returnsInHanded_of_change_and (C := Tryd.checked) (X := fun w _ => laidMetH Tryd.prog ta w) (fun _ _ _ hh h => h.of_heap hh) ownZ started (by kernel_rfl) Tryd.func4
  (ChangeSpec.witness_shaped (enc := enc) (C := Tryd.checked) (os := os) (X := fun w _ => laidMetH Tryd.prog ta w) false (World.doorLaid Tryd.prog 600 os) #[.agg #[.slice none 0 0, .slice none 0 0, .slice none 0 0, .slice none 0 0], .int .i64 0] 8 rfl (World.shaped_of_RefB (by kernel_rfl) (by kernel_rfl)) (by kernel_rfl) (by kernel_rfl) (by kernel_rfl) (uli os _)) ?_
 intro W base args ds gs before hval0 hW _ _ hL _
 have hval : ∀ (j : Nat) t v, Tryd.f4.params[j]? = some t → args[j]? = some v → Value.okWide Tryd.prog W .any base t v := hval0
 have hW' := hW
 obtain ⟨p, q, hA0, hV, rfl, hfz, hnd⟩ := hW
 have hA : DataW.TrodAll enc Tryd.prog W 0 (fun _ => true) true Tryd.f4.params.toList args.toList ds p := hA0
 rw [Tryd.params4] at hA hval
 obtain ⟨v0, v1, d0, d1, p0, p1, rfl, rfl, rfl, h0, h1⟩ := trodAll_two hA
 obtain ⟨rfl, rfl⟩ := trodVars_none hV
 obtain ⟨x0, r0⟩ := OpensE.arg (α := aq) ubm (hval 0 _ v0 rfl rfl) h0
 obtain ⟨x1, r1⟩ := OpensE.argInt ukk (hval 1 _ v1 rfl rfl) h1
 refine (ukf (uls x0 x1) (ugn hL) (args := [_, _]) (Rs.cons r0 (Rs.cons r1 Rs.nil))).mono fun e W' ⟨he, hB⟩ => ?_
 subst he
 have hlt := hW'.lt
 have hr10 : Tryd.prog.readableRec 28 = true := by kernel_rfl
 have hn10 : 28 < Tryd.prog.types.size := of_decide_eq_true (by kernel_rfl)
 have hr11 : Tryd.prog.readableRec 3 = true := by kernel_rfl
 have hn11 : 3 < Tryd.prog.types.size := of_decide_eq_true (by kernel_rfl)
 refine ⟨_, rfl, _, _, _, [], _, [], hW', trodAll_mk1 (shut_bool ul6 _), trodAll_mk2 (Below.trod ym hr10 hn10 h0 hB fun x hx => hlt x (by simp [hx])) (Below.trod ym hr11 hn11 h1 hB fun x hx => hlt x (by simp [hx])), rfl, hB.frame _, fun h => by cases h⟩

theorem ulq : Rows.ProofChiefsSaid :=
 OpenClaim.holds_of_wide 4 Tryd.f4 rfl rfl rfl rfl rfl rfl rfl ⟨rfl, rfl, rfl, rfl, rfl⟩ rfl rfl rfl rfl rfl (by kernel_rfl) Tryd.func4 (by kernel_rfl)
  (of_decide_eq_true (by kernel_rfl)) (by unfold Func.isWrapper; first | (rw [if_pos (by decide +kernel)]; kernel_rfl) | (rw [if_neg (by decide +kernel)]; exact ⟨rfl, rfl⟩))
  (fun os started H enc _ => ulr os started H enc)
theorem chiefss : Rows.ProofChiefsCardSaid :=
 Claim7.holds_tied_plain_at .later [] [.funcs] true Rows.proofChiefsCard.stood.harness false
  ulq (fun _ h => by cases h) (by kernel_rfl) (fun _ h => by cases h) proofChiefs_row_tie rfl ⟨rfl, rfl⟩ (by kernel_rfl) rfl
  (fun f fn hf hfn => by
   obtain rfl : f = 4 := Option.some.inj ((show Tryd.prog.funcNamed "postil/postillaw09.ProofChiefs" = some 4 by kernel_rfl).symm.trans hf) |>.symm
   obtain rfl : fn = Tryd.f4 := (Option.some.inj (Tryd.func4.symm.trans hfn)).symm
   exact ⟨by kernel_rfl, fun j t ht => by
    rw [Tryd.params4] at ht
    have hm : t ∈ [28, 3] := by simpa using Array.mem_of_getElem? ht
    have hall : ([28, 3].all fun u => !Tryd.prog.wantsStandIn u) = true := by kernel_rfl
    exact (show Tryd.prog.wantsStandIn t = false by simpa using List.all_eq_true.1 hall t hm)⟩)
  (by kernel_rfl)
#print axioms chiefss
end Go.Proofs.YtgffhbbcpgdjjaaDoor
