/-
 'ProofTrueCardSaid' is proved: whatever the input, the law ProofTrue returns true, and its input reads behind the call as it read before, where the table that the program reads holds what the program's text lays; the card ties that. No condition beyond.
-/
import Derived.Test.YtgffhbbcpgdjjaaGreatDoorPartF
import Derived.Test.YtgffhbbcpgdjjaaGreatDoorPartE
import Derived.Test.YtgffhbbcpgdjjaaGreatDoorPartB
import Derived.Test.YtgffhbbcpgdjjaaGreatDoorRows
import Derived.Test.YtgffhbbcpgdjjaaGreatDoorCards
import Derived.Test.YtgffhbbcpgdjjaaGreatDoorTie
import Derived.LaidMore
import Derived.Stop.Joined
import Derived.SevenTiedAt
import Derived.JoinedOf
import Derived.Handed
namespace Go.Proofs.YtgffhbbcpgdjjaaGreatDoor
open Go.ChangeShapes Go.WideShapes Go.ChangeAt Go.RowKit Go.AB
open Go.AB.Enc (cells)
open Go.PB (ay aj PlaceD bg bi bh bn ak ah cr bq)

set_option maxRecDepth 100000 in
theorem ul6 (os : Os) (started : os.Started) (H : Type) (enc : TypeId × Value → H) :
  ReturnsInHanded {} Tryz.checked os 3 .any (fun w args => (Rows.proofTrueSpec.pre enc Tryz.prog Tryz.f3 [] false w args ∧ laidMetH Tryz.prog xu w) ∧ sizedMet enc Tryz.prog Tryz.f3 (OpenSpec.ofChange Rows.proofTrueSpec) false w args)
   (Rows.proofTrueSpec.post enc Tryz.prog Tryz.f3 false true false false) := by
 refine returnsInHanded_of_change_and (C := Tryz.checked) (X := fun w _ => laidMetH Tryz.prog xu w) (fun _ _ _ hh h => h.of_heap hh) ownZ started (by kernel_rfl) Tryz.func3
  (ChangeSpec.witness_shaped (enc := enc) (C := Tryz.checked) (os := os) (X := fun w _ => laidMetH Tryz.prog xu w) false (World.doorLaid Tryz.prog 600 os) #[.agg #[.slice none 0 0, .slice none 0 0, .slice none 0 0, .slice none 0 0], .slice none 0 0] 8 rfl (World.shaped_of_RefB (by kernel_rfl) (by kernel_rfl)) (by kernel_rfl) (by kernel_rfl) (by kernel_rfl) (utb os _)) ?_
 intro W base args ds gs before hval0 hW _ _ hL _
 have hval : ∀ (j : Nat) t v, Tryz.f3.params[j]? = some t → args[j]? = some v → Value.okWide Tryz.prog W .any base t v := hval0
 have hW' := hW
 obtain ⟨p, q, hA0, hV, rfl, hfz, hnd⟩ := hW
 have hA : DataW.TrodAll enc Tryz.prog W 0 (fun _ => true) true Tryz.f3.params.toList args.toList ds p := hA0
 rw [Tryz.params3] at hA hval
 obtain ⟨v0, v1, d0, d1, p0, p1, rfl, rfl, rfl, h0, h1⟩ := trodAll_two hA
 obtain ⟨rfl, rfl⟩ := trodVars_none hV
 obtain ⟨x0, r0⟩ := OpensE.arg (α := ah) ufz (hval 0 _ v0 rfl rfl) h0
 obtain ⟨x1, r1⟩ := OpensE.argList (α := U32) uls (hval 1 _ v1 rfl rfl) h1
 refine (url (ul8 x0 x1) (um6 hL) (args := [_, _]) (Rs.cons r0 (Rs.cons r1 Rs.nil))).mono fun e W' ⟨he, hB⟩ => ?_
 subst he
 have hlt := hW'.lt
 have hr10 : Tryz.prog.readableRec 28 = true := by kernel_rfl
 have hn10 : 28 < Tryz.prog.types.size := of_decide_eq_true (by kernel_rfl)
 have hr11 : Tryz.prog.readableRec 29 = true := by kernel_rfl
 have hn11 : 29 < Tryz.prog.types.size := of_decide_eq_true (by kernel_rfl)
 refine ⟨_, rfl, _, _, _, [], _, [], hW', trodAll_mk1 (shut_bool ut0 _), trodAll_mk2 (Below.trod uct hr10 hn10 h0 hB fun x hx => hlt x (by simp [hx])) (Below.trod uct hr11 hn11 h1 hB fun x hx => hlt x (by simp [hx])), rfl, hB.frame _, fun h => by cases h⟩

theorem ul5 : Rows.ProofTrueSaid :=
 OpenClaim.holds_of_wide 3 Tryz.f3 rfl rfl rfl rfl rfl rfl rfl ⟨rfl, rfl, rfl, rfl, rfl⟩ rfl rfl rfl rfl rfl (by kernel_rfl) Tryz.func3 (by kernel_rfl)
  (of_decide_eq_true (by kernel_rfl)) (by unfold Func.isWrapper; first | (rw [if_pos (by decide +kernel)]; kernel_rfl) | (rw [if_neg (by decide +kernel)]; exact ⟨rfl, rfl⟩))
  (fun os started H enc _ => ul6 os started H enc)
theorem trues : Rows.ProofTrueCardSaid :=
 Claim7.holds_tied_plain_at .later [] [.funcs] true Rows.proofTrueCard.stood.harness false
  ul5 (fun _ h => by cases h) (by kernel_rfl) (fun _ h => by cases h) proofTrue_row_tie rfl ⟨rfl, rfl⟩ (by kernel_rfl) rfl
  (fun f fn hf hfn => by
   obtain rfl : f = 3 := Option.some.inj ((show Tryz.prog.funcNamed "postil/postillaw09.ProofTrue" = some 3 by kernel_rfl).symm.trans hf) |>.symm
   obtain rfl : fn = Tryz.f3 := (Option.some.inj (Tryz.func3.symm.trans hfn)).symm
   exact ⟨by kernel_rfl, fun j t ht => by
    rw [Tryz.params3] at ht
    have hm : t ∈ [28, 29] := by simpa using Array.mem_of_getElem? ht
    have hall : ([28, 29].all fun u => !Tryz.prog.wantsStandIn u) = true := by kernel_rfl
    exact (show Tryz.prog.wantsStandIn t = false by simpa using List.all_eq_true.1 hall t hm)⟩)
  (by kernel_rfl)
#print axioms trues
end Go.Proofs.YtgffhbbcpgdjjaaGreatDoor
