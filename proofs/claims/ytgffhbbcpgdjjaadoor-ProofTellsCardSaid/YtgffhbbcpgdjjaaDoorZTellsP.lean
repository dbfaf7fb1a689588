/-
 'ProofTellsCardSaid' is proved: whatever the input, the law ProofTells returns true, and its input reads behind the call as it read before, where the table that the program reads holds what the program's text lays; the card ties that. No condition beyond.
-/
import Derived.Test.YtgffhbbcpgdjjaaDoorPartE
import Derived.Test.YtgffhbbcpgdjjaaDoorPartB
import Derived.Test.YtgffhbbcpgdjjaaDoorRows
import Derived.Test.YtgffhbbcpgdjjaaDoorCards
import Derived.Test.YtgffhbbcpgdjjaaDoorTie
import Derived.LaidMore
import Derived.Stop.Joined
import Derived.SevenTiedAt
import Derived.JoinedOf
import Derived.Handed
namespace Go.Proofs.YtgffhbbcpgdjjaaDoor
open Go.ChangeShapes Go.WideShapes Go.ChangeAt Go.RowKit Go.AB
open Go.AB.Enc (cells)
open Go.PB (ay aj PlaceD bh bj bi bx aq am cv co)

set_option maxRecDepth 100000 in
theorem uef (os : Os) (started : os.Started) (H : Type) (enc : TypeId × Value → H) :
  ReturnsInHanded {} Tryd.checked os 3 .any (fun w args => (Rows.proofTellsSpec.pre enc Tryd.prog Tryd.f3 [] false w args ∧ laidMetH Tryd.prog sm w) ∧ sizedMet enc Tryd.prog Tryd.f3 (OpenSpec.ofChange Rows.proofTellsSpec) false w args)
   (Rows.proofTellsSpec.post enc Tryd.prog Tryd.f3 false true false false) := by
 refine returnsInHanded_of_change_and (C := Tryd.checked) (X := fun w _ => laidMetH Tryd.prog sm w) (fun _ _ _ hh h => h.of_heap hh) ownZ started (by kernel_rfl) Tryd.func3
  (ChangeSpec.witness_shaped (enc := enc) (C := Tryd.checked) (os := os) (X := fun w _ => laidMetH Tryd.prog sm w) false (World.doorLaid Tryd.prog 600 os) #[.agg #[.slice none 0 0, .slice none 0 0, .slice none 0 0, .slice none 0 0], .int .i64 0, .bool false, .int .i64 0] 8 rfl (World.shaped_of_RefB (by kernel_rfl) (by kernel_rfl)) (by kernel_rfl) (by kernel_rfl) (by kernel_rfl) (uig os _)) ?_
 intro W base args ds gs before hval0 hW _ _ hL _
 have hval : ∀ (j : Nat) t v, Tryd.f3.params[j]? = some t → args[j]? = some v → Value.okWide Tryd.prog W .any base t v := hval0
 have hW' := hW
 obtain ⟨p, q, hA0, hV, rfl, hfz, hnd⟩ := hW
 have hA : DataW.TrodAll enc Tryd.prog W 0 (fun _ => true) true Tryd.f3.params.toList args.toList ds p := hA0
 rw [Tryd.params3] at hA hval
 obtain ⟨v0, v1, v2, v3, d0, d1, d2, d3, p0, p1, p2, p3, rfl, rfl, rfl, h0, h1, h2, h3⟩ := trodAll_four hA
 obtain ⟨rfl, rfl⟩ := trodVars_none hV
 obtain ⟨x0, r0⟩ := OpensE.arg (α := am) uav (hval 0 _ v0 rfl rfl) h0
 obtain ⟨x1, r1⟩ := OpensE.argInt ub0 (hval 1 _ v1 rfl rfl) h1
 obtain ⟨x2, r2⟩ := OpensE.argBool uiv (hval 2 _ v2 rfl rfl) h2
 obtain ⟨x3, r3⟩ := OpensE.argInt ub0 (hval 3 _ v3 rfl rfl) h3
 refine (uhf (ueg x0 x1 x2 x3) (ueu hL) (args := [_, _, _, _]) (Rs.cons r0 (Rs.cons r1 (Rs.cons r2 (Rs.cons r3 Rs.nil))))).mono fun e W' ⟨he, hB⟩ => ?_
 subst he
 have hlt := hW'.lt
 have hr10 : Tryd.prog.readableRec 28 = true := by kernel_rfl
 have hn10 : 28 < Tryd.prog.types.size := of_decide_eq_true (by kernel_rfl)
 have hr11 : Tryd.prog.readableRec 3 = true := by kernel_rfl
 have hn11 : 3 < Tryd.prog.types.size := of_decide_eq_true (by kernel_rfl)
 have hr12 : Tryd.prog.readableRec 4 = true := by kernel_rfl
 have hn12 : 4 < Tryd.prog.types.size := of_decide_eq_true (by kernel_rfl)
 refine ⟨_, rfl, _, _, _, [], _, [], hW', trodAll_mk1 (shut_bool uit _), trodAll_mk4 (Below.trod sn hr10 hn10 h0 hB fun x hx => hlt x (by simp [hx])) (Below.trod sn hr11 hn11 h1 hB fun x hx => hlt x (by simp [hx])) (Below.trod sn hr12 hn12 h2 hB fun x hx => hlt x (by simp [hx])) (Below.trod sn hr11 hn11 h3 hB fun x hx => hlt x (by simp [hx])), rfl, hB.frame _, fun h => by cases h⟩

theorem uee : Rows.ProofTellsSaid :=
 OpenClaim.holds_of_wide 3 Tryd.f3 rfl rfl rfl rfl rfl rfl rfl ⟨rfl, rfl, rfl, rfl, rfl⟩ rfl rfl rfl rfl rfl (by kernel_rfl) Tryd.func3 (by kernel_rfl)
  (of_decide_eq_true (by kernel_rfl)) (by unfold Func.isWrapper; first | (rw [if_pos (by decide +kernel)]; kernel_rfl) | (rw [if_neg (by decide +kernel)]; exact ⟨rfl, rfl⟩))
  (fun os started H enc _ => uef os started H enc)
theorem tellss : Rows.ProofTellsCardSaid :=
 Claim7.holds_tied_plain_at .later [] [.funcs] true Rows.proofTellsCard.stood.harness false
  uee (fun _ h => by cases h) (by kernel_rfl) (fun _ h => by cases h) proofTells_row_tie rfl ⟨rfl, rfl⟩ (by kernel_rfl) rfl
  (fun f fn hf hfn => by
   obtain rfl : f = 3 := Option.some.inj ((show Tryd.prog.funcNamed "postil/postillaw09.ProofTells" = some 3 by kernel_rfl).symm.trans hf) |>.symm
   obtain rfl : fn = Tryd.f3 := (Option.some.inj (Tryd.func3.symm.trans hfn)).symm
   exact ⟨by kernel_rfl, fun j t ht => by
    rw [Tryd.params3] at ht
    have hm : t ∈ [28, 3, 4] := by
     have h0 : t = 28 ∨ t = 3 ∨ t = 4 ∨ t = 3 := by simpa using Array.mem_of_getElem? ht
     rcases h0 with h | h | h | h <;> simp [h]
    have hall : ([28, 3, 4].all fun u => !Tryd.prog.wantsStandIn u) = true := by kernel_rfl
    exact (show Tryd.prog.wantsStandIn t = false by simpa using List.all_eq_true.1 hall t hm)⟩)
  (by kernel_rfl)
#print axioms tellss
end Go.Proofs.YtgffhbbcpgdjjaaDoor
