/-
  'LeafFindsSaid' is proved: whatever the texts and the number, the law LeafFinds returns true, and its input reads behind the call as it read before. No condition.
-/
import Derived.Test.YtalkonicppbgdaaAcTen
import Derived.Test.YtalkonicppbgdaaOpen
import Derived.Test.YtalkonicppbgdaaRows
import Derived.OpenShut
import Derived.JoinedOf
import Derived.Handed
namespace Go.Proofs.Ytalkonicppbgdaa
open Go.ChangeShapes Go.WideShapes Go.ChangeAt Go.RowKit Go.AB
open Go.AB.Enc (cells)
open Go.PB (Chap TextD PlaceD ReadingD CopyD WayD)

instance : Opens Try.prog 3 Int := .int (by kernel_rfl)
instance : Opens Try.prog 9 ByteArray := .str (by kernel_rfl)
instance : Opens Try.prog 45 (List ByteArray) := .slice (e := 9) (by kernel_rfl) (by decide)
instance : Opens Try.prog 42 (List (List ByteArray)) := .slice (e := 45) (by kernel_rfl) (by decide)
instance : Opens Try.prog 44 Chap := .chap (tI := 3) (tL := 42) (by kernel_rfl)
instance : Opens Try.prog 22 (List Chap) := .slice (e := 44) (by kernel_rfl) (by decide)
theorem textStc : stcChk Try.prog 24 [(0, 22, 1)] 1 = true := by kernel_rfl
instance : Opens Try.prog 24 (List Chap) := .one (e := 22) textStc
theorem intOk : intChk Try.prog 3 .i64 = true := by kernel_rfl
theorem boolOk : Try.prog.underlying 4 = some .bool := by kernel_rfl
theorem own : ownKnob Try.prog.godebug = none := by kernel_rfl
theorem laidOutZ : laidOutB Try.prog = true := by kernel_rfl

theorem findsLifted (os : Os) (started : os.Started) (H : Type) (enc : TypeId × Value → H) :
    ReturnsInHanded Rows.leafFindsRow.assume Try.checked os 3 .any (Rows.leafFindsSpec.pre6 enc Try.prog Try.f3 Rows.leafFindsRow.domain false) (Rows.leafFindsSpec.post enc Try.prog Try.f3 false true false false) := by
  refine returnsInHanded_of_change (C := Try.checked) own started (by kernel_rfl) Try.func3
    (ChangeSpec.witness6 (enc := enc) (C := Try.checked) false ⟨#[], #[.agg #[.slice none 0 0], .agg #[.slice none 0 0], .int .i64 0], []⟩ 8 (by kernel_rfl) (by kernel_rfl) (by kernel_rfl) (by kernel_rfl)) ?_
  intro W base args ds gs before hval0 hW hcnd0 _
  have hval : ∀ (j : Nat) t v, Try.f3.params[j]? = some t → args[j]? = some v → Value.okWide Try.prog W .any base t v := hval0
  have hW' := hW
  obtain ⟨p, q, hA0, hV, rfl, hfz, hnd⟩ := hW
  have hA : DataW.TrodAll enc Try.prog W 0 (fun _ => true) true Try.f3.params.toList args.toList ds p := hA0
  rw [Try.params3] at hA hval
  obtain ⟨v0, v1, v2, d0, d1, d2, p0, p1, p2, rfl, rfl, rfl, h0, h1, h2⟩ := trodAll_three hA
  obtain ⟨rfl, rfl⟩ := trodVars_none hV
  obtain ⟨t, cs0, rfl, r0⟩ := Opens.arg (α := List Chap) textStc (hval 0 _ v0 rfl rfl) h0
  obtain ⟨u, cs1, rfl, r1⟩ := Opens.arg (α := List Chap) textStc (hval 1 _ v1 rfl rfl) h1
  obtain ⟨id, rfl, ok⟩ := Opens.argInt intOk (hval 2 _ v2 rfl rfl) h2
  refine (law_calls (law_pure t u id) (w := W) (args := [_, _, _]) (Rs.cons (argAgg0 r0) (Rs.cons (argAgg0 r1) (Rs.one_of (.v ok))))).mono fun e W' ⟨he, hB⟩ => ?_
  subst he
  have hlt := hW'.lt
  have hr : Try.prog.readableRec 24 = true := by kernel_rfl
  have hn : 24 < Try.prog.types.size := of_decide_eq_true (by kernel_rfl)
  have hri : Try.prog.readableRec 3 = true := by kernel_rfl
  have hni : 3 < Try.prog.types.size := of_decide_eq_true (by kernel_rfl)
  refine ⟨_, rfl, _, _, _, [], _, [], hW', trodAll_mk1 (shut_bool boolOk _), trodAll_mk3 (Below.trod laidOutZ hr hn h0 hB fun x hx => hlt x (by simp [hx])) (Below.trod laidOutZ hr hn h1 hB fun x hx => hlt x (by simp [hx])) (Below.trod laidOutZ hri hni h2 hB fun x hx => hlt x (by simp [hx])), rfl, hB.frame _, fun h => by cases h⟩

theorem finds : Rows.LeafFindsSaid :=
  OpenClaim.holds_of_wide 3 Try.f3 rfl rfl rfl rfl rfl rfl rfl ⟨rfl, rfl, rfl, rfl, rfl⟩ rfl rfl rfl rfl rfl (by kernel_rfl) Try.func3 (by kernel_rfl)
    (of_decide_eq_true (by kernel_rfl)) (by unfold Func.isWrapper; first | (rw [if_pos (by decide +kernel)]; kernel_rfl) | (rw [if_neg (by decide +kernel)]; exact ⟨rfl, rfl⟩))
    (fun os started H enc _ => findsLifted os started H enc)
#print axioms finds
end Go.Proofs.Ytalkonicppbgdaa
