/-
  The program's Find and Apart, in the contracts' new form.
-/
import Derived.Test.YtalkonicppbgdaaAcEight
import Derived.Test.YtalkonicppbgdaaBridge
import Derived.Test.YtalkonicppbgdaaFind
namespace Go.AB
open Go.PB (Chap TextD PlaceD ReadingD CopyD WayD)

theorem few_eq (a b : List ByteArray) : PB.few a b = few a b := by
  induction a generalizing b with
  | nil => simp [PB.few, few]
  | cons x a ih =>
    induction b with
    | nil => simp [PB.few, few]
    | cons y b ihb => rw [PB.few, few, ih b, ih (y :: b), ihb]
theorem fewAt_eq (a b : List ByteArray) (i k : Nat) : PB.fewAt a b i k = fewAt a b i k := few_eq _ _
theorem wayAt_eq : ∀ j, PB.wayAt j = wayAt j
  | 0 => rfl
  | 1 => rfl
  | _ + 2 => rfl
theorem stW_eq (a b : List ByteArray) (i k : Nat) : ∀ j, PB.stW a b i k j = stW a b i k j
  | 0 => rfl
  | j + 1 => by
    unfold PB.stW stW
    rw [stW_eq a b i k j, wayAt_eq j]
    unfold PB.lessW lessW
    rw [fewAt_eq]
    rfl
theorem bestW_eq (a b : List ByteArray) (i k : Nat) : PB.bestW a b i k = bestW a b i k := stW_eq _ _ _ _ _
theorem editsN_eq (a b : List ByteArray) (ch ln : Int) : ∀ n i k, PB.editsN a b ch ln n i k = editsN a b ch ln n i k
  | 0, _, _ => rfl
  | n + 1, i, k => by
    unfold PB.editsN editsN
    rw [bestW_eq, editsN_eq a b ch ln n, editsN_eq a b ch ln n]
    rfl
theorem edits_eq (a b : List ByteArray) (ch ln : Int) (i k : Nat) : PB.edits a b ch ln i k = edits a b ch ln i k := editsN_eq ..
theorem linesOf_eq (t : TextD) (k : Nat) : PB.linesOf t k = linesOf t k := by
  unfold PB.linesOf linesOf
  cases t[k]? <;> rfl
theorem chapTo_eq (t u : TextD) (k m : Nat) : PB.chapTo t u k m = chapTo t u k m := by
  induction m with
  | zero => rfl
  | succ m ih =>
    rw [PB.chapTo_succ, chapTo_succ, ih, edits_eq]
    unfold PB.lineAt lineAt
    rw [linesOf_eq, linesOf_eq]
theorem allTo_eq (t u : TextD) (m : Nat) : PB.allTo t u m = allTo t u m := by
  induction m with
  | zero => rfl
  | succ m ih => rw [PB.allTo_succ, allTo_succ, ih, chapTo_eq, linesOf_eq]
theorem allE_eq (t u : TextD) : PB.allE t u = allE t u := allTo_eq ..
theorem textB_eq (t : TextD) : PB.textB t = textB t := rfl
theorem alikeB_eq (t u : TextD) : PB.alikeB t u = alikeB t u := rfl
theorem twoE_eq (t u : TextD) : PB.twoE t u = twoE t u := by
  unfold PB.twoE twoE
  rw [textB_eq, textB_eq, alikeB_eq]
  cases textB t <;> cases textB u <;> cases alikeB t u <;> rfl
theorem inB_eq (n lo hi : Int) : PB.inB n lo hi = inB n lo hi := rfl
theorem findE_eq (t u : TextD) (id : Int) : PB.findE t u id = findE t u id := by
  unfold PB.findE findE
  rw [twoE_eq, allE_eq, inB_eq]
theorem findC_eq (t u : TextD) (id : Int) : PB.findC t u id = findC t u id := by
  unfold PB.findC findC
  rw [findE_eq, allE_eq]
theorem apartN_eq (t u : TextD) : PB.apartN t u = apartN t u := by
  unfold PB.apartN apartN
  rw [twoE_eq, allE_eq]
theorem twoE_ok (t u : TextD) : okV (.int .i64 (twoE t u)) = true := by
  unfold twoE
  cases textB t <;> cases textB u <;> cases alikeB t u <;> decide
theorem apartN_ok (t u : TextD) : okV (.int .i64 (apartN t u)) = true := by
  unfold apartN
  split
  · rename_i h
    have hz := twoE_zero.1 h
    have := allE_len hz.1 hz.2.1 hz.2.2
    exact okV_i64 (by omega)
  · decide
theorem findE_ok (t u : TextD) (id : Int) : okV (.int .i64 (findE t u id)) = true := by
  unfold findE
  split
  · split
    · split <;> decide
    · decide
  · exact twoE_ok t u
theorem findC_ok (t u : TextD) {id : Int} (h : okV (.int .i64 id) = true) : okV (.int .i64 (findC t u id).id) = true := by
  unfold findC
  split
  · exact h
  · show okV (.int .i64 0) = true
    decide
end Go.AB
namespace Go.Proofs.Ytalkonicppbgdaa
open Go.RowKit Go.AB
open Go.AB.Enc (cells)
open Go.PB (Chap TextD PlaceD ReadingD CopyD WayD)

theorem leafApart_pure (t u : TextD) : Pure Try.prog 8 [textC t, textC u] (.tup [.v (.int .i64 (apartN t u)), .v (.int .i64 (twoE t u))]) := by
  refine pure_of_old fun E w vs G nx hr hg => ?_
  match vs, hr with
  | [v1, v2], hr =>
    obtain ⟨a, rfl, ha⟩ := Both.text hg (hr.2 0 _ _ rfl rfl)
    obtain ⟨b, rfl, hb⟩ := Both.text hg (hr.2 1 _ _ rfl rfl)
    refine (Apart_any t u a b w ha hb).mono ?_
    rintro e w' ⟨rfl, hB⟩
    refine ⟨_, rfl, hB, fun E' _ => ?_⟩
    rw [apartN_eq, twoE_eq]
    exact Rs.tup (vs := [_, _]) (Rs.cons (.v (apartN_ok t u)) (Rs.one_of (.v (twoE_ok t u))))
  | [], hr => exact absurd hr.1 (by simp)
  | [_], hr => exact absurd hr.1 (by simp)
  | _ :: _ :: _ :: _, hr => exact absurd hr.1 (by simp)

theorem leafFind_pure (t u : TextD) (id : Int) : Pure Try.prog 6 [textC t, textC u, .v (.int .i64 id)] (.tup [val (findC t u id), .v (.int .i64 (findE t u id))]) := by
  refine pure_of_old fun E w vs G nx hr hg => ?_
  match vs, hr with
  | [v1, v2, v3], hr =>
    obtain ⟨a, rfl, ha⟩ := Both.text hg (hr.2 0 _ _ rfl rfl)
    obtain ⟨b, rfl, hb⟩ := Both.text hg (hr.2 1 _ _ rfl rfl)
    have h3 := hr.2 2 _ _ rfl rfl
    cases h3 with
    | v h3 =>
    refine (Find_any t u id a b w ha hb (wf_i64.2 h3)).mono ?_
    rintro e w' ⟨vs, rfl, hB, hrd⟩
    refine ⟨_, rfl, hB, fun E' hL => ?_⟩
    rw [findC_eq] at hrd ⊢
    rw [findE_eq]
    obtain ⟨u', e, hu⟩ := Rs.one_inv (Both.of (E := E') (fun b h => hL b h.1 h.2) hrd)
    simp only [List.cons.injEq, and_true] at e
    subst e
    exact Rs.tup (vs := [_, _]) (Rs.cons (Rs.agg (vs := [_, _]) (Rs.cons (.v (findC_ok t u h3)) (Rs.one_of hu)) (Enc.one _)) (Rs.one_of (.v (findE_ok t u id))))
  | [], hr => exact absurd hr.1 (by simp)
  | [_], hr => exact absurd hr.1 (by simp)
  | [_, _], hr => exact absurd hr.1 (by simp)
  | _ :: _ :: _ :: _ :: _, hr => exact absurd hr.1 (by simp)
end Go.Proofs.Ytalkonicppbgdaa
