/-
 'LeafWordsSaid' is proved: whatever the text, the place, the number and the word, the law LeafWords returns true, and its input reads behind the call as it read before. No condition.
-/
import Derived.Test.YtejhjijbgceklaaLbWords
import Derived.Test.YtejhjijbgceklaaOpenL
import Derived.Test.YtejhjijbgceklaaCkKeys
import Derived.Test.YtejhjijbgceklaaRows
import Derived.OpenShut
import Derived.JoinedOf
import Derived.Handed
namespace Go.Proofs.Ytejhjijbgceklaa
open Go.ChangeShapes Go.WideShapes Go.ChangeAt Go.RowKit Go.AB
open Go.AB.Enc (cells)
open Go.PB (Chap TextD PlaceD ReadingD CopyD WayD)
set_option maxRecDepth 100000 in
theorem wordsLifted (os : Os) (started : os.Started) (H : Type) (enc : TypeId × Value → H) :
  ReturnsInHanded Rows.leafWordsRow.assume Try.checked os (4) .any (Rows.leafWordsSpec.pre6 enc Try.prog Try.f4 Rows.leafWordsRow.domain false) (Rows.leafWordsSpec.post enc Try.prog Try.f4 false true false false) := by
 refine returnsInHanded_of_change (C := Try.checked) ownZ started (by kernel_rfl) Try.func4
  (ChangeSpec.witness6 (enc := enc) (C := Try.checked) false ⟨#[], #[.agg #[.slice none 0 0], .agg #[.int .i64 0, .int .i64 0, .int .i64 0], .int .i64 0, .string ⟨#[]⟩], []⟩ 8 (by kernel_rfl) (by kernel_rfl) (by kernel_rfl) (by kernel_rfl)) ?_
 intro W base args ds gs before hval0 hW hcnd0 _
 have hval : ∀ (j : Nat) t v, Try.f4.params[j]? = some t → args[j]? = some v → Value.okWide Try.prog W .any base t v := hval0
 have hW' := hW
 obtain ⟨p, q, hA0, hV, rfl, hfz, hnd⟩ := hW
 have hA : DataW.TrodAll enc Try.prog W 0 (fun _ => true) true Try.f4.params.toList args.toList ds p := hA0
 rw [Try.params4] at hA hval
 obtain ⟨v0, v1, v2, v3, d0, d1, d2, d3, p0, p1, p2, p3, rfl, rfl, rfl, h0, h1, h2, h3⟩ := trodAll_four hA
 obtain ⟨rfl, rfl⟩ := trodVars_none hV
 obtain ⟨x0, r0⟩ := OpensE.arg (α := List Chap) textStc (hval 0 _ v0 rfl rfl) h0
 obtain ⟨x1, r1⟩ := OpensE.arg (α := PlaceD) placeStc (hval 1 _ v1 rfl rfl) h1
 obtain ⟨x2, r2⟩ := OpensE.argInt intOk (hval 2 _ v2 rfl rfl) h2
 obtain ⟨x3, r3⟩ := OpensE.argStrL strOk (hval 3 _ v3 rfl rfl) h3
 refine (law_calls (lawWords_pure x0 x1 x2 x3) (w := W) (args := [_, _, _, _]) (Rs.cons r0 (Rs.cons r1 (Rs.cons r2 (Rs.cons r3 Rs.nil))))).mono fun e W' ⟨he, hB⟩ => ?_
 subst he
 have hlt := hW'.lt
 have hr10 : Try.prog.readableRec 24 = true := by kernel_rfl
 have hn10 : 24 < Try.prog.types.size := of_decide_eq_true (by kernel_rfl)
 have hr11 : Try.prog.readableRec 43 = true := by kernel_rfl
 have hn11 : 43 < Try.prog.types.size := of_decide_eq_true (by kernel_rfl)
 have hr12 : Try.prog.readableRec 3 = true := by kernel_rfl
 have hn12 : 3 < Try.prog.types.size := of_decide_eq_true (by kernel_rfl)
 have hr13 : Try.prog.readableRec 9 = true := by kernel_rfl
 have hn13 : 9 < Try.prog.types.size := of_decide_eq_true (by kernel_rfl)
 refine ⟨_, rfl, _, _, _, [], _, [], hW', trodAll_mk1 (shut_bool boolOk _), trodAll_mk4 (Below.trod laidOutK hr10 hn10 h0 hB fun x hx => hlt x (by simp [hx])) (Below.trod laidOutK hr11 hn11 h1 hB fun x hx => hlt x (by simp [hx])) (Below.trod laidOutK hr12 hn12 h2 hB fun x hx => hlt x (by simp [hx])) (Below.trod laidOutK hr13 hn13 h3 hB fun x hx => hlt x (by simp [hx])), rfl, hB.frame _, fun h => by cases h⟩

theorem words : Rows.LeafWordsSaid :=
 OpenClaim.holds_of_wide (4) Try.f4 rfl rfl rfl rfl rfl rfl rfl ⟨rfl, rfl, rfl, rfl, rfl⟩ rfl rfl rfl rfl rfl (by kernel_rfl) Try.func4 (by kernel_rfl)
  (of_decide_eq_true (by kernel_rfl)) (by unfold Func.isWrapper; first | (rw [if_pos (by decide +kernel)]; kernel_rfl) | (rw [if_neg (by decide +kernel)]; exact ⟨rfl, rfl⟩))
  (fun os started H enc _ => wordsLifted os started H enc)
#print axioms words
end Go.Proofs.Ytejhjijbgceklaa
