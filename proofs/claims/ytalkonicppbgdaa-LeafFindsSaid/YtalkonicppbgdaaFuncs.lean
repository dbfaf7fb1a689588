/-
  Contracts of the library's IndexFunc and ContainsFunc over elements of one cell.
-/
import Derived.Test.YtalkonicppbgdaaSpec
import Derived.Test.YtalkonicppbgdaaProg
namespace Go.Proofs.Ytalkonicppbgdaa
open Go.RowKit Go.PB
open Go.PB.Rep (rd)

set_option maxHeartbeats 400000 in
theorem IndexFunc_int (xs : List Int) (p : Int → Bool) (v : Value) (g : FuncId) (caps : Array Value) (w : World) (he : ∀ (args : Array Value) (w : World), (callFunc g args).run Try.prog w = .ok (.enter g args) w) (hr : Rd w [v] xs)
    (hp : ∀ (w' : World) (i : Nat) x, Below w.heap.size w w' → xs[i]? = some x → rd w' (· < w'.heap.size) [One.val x] x → Calls Try.prog g (#[One.val x] ++ caps) w' fun e w'' => e = .returned (.bool (p x)) ∧ Below w'.heap.size w' w'') :
    Calls Try.prog 31 #[v, .func (.func g) #[] caps] w fun e w' => e = .returned (.int .i64 (idxB p xs)) ∧ Below w.heap.size w w' := by
  obtain ⟨a, cap, rfl, m1, m2⟩ := rd_open hr
  have HPP := Lib.hid hp; clear hp
  go_enter Try.func31, Try.ntmps31
  go_wp2
  go_loopg [8] (xs.length + 1) (fun gk i wr => ∃ k : Nat, k ≤ xs.length ∧ gk = xs.length + 1 - k ∧ i = .int .i64 k ∧ (xs.take k).any p = false ∧ Below w.heap.size w wr)
  case atStart => exact ⟨0, Nat.zero_le _, by simp, rfl, by simp, Below.refl _ _⟩
  case round =>
    obtain ⟨w1, rfl⟩ : ∃ x : World, x = wr := ⟨_, rfl⟩
    obtain ⟨k, hk, rfl, rfl, hq, hB⟩ := hrel
    have HQ := Lib.hid hq; clear hq
    by_cases hlt : k < xs.length
    · obtain ⟨x, hx⟩ := some_of_lt hlt
      obtain ⟨b, o, rfl, hb, c0, hrx⟩ := (hr.below hB).one hx
      have hcall := HPP.out w1 k x hB hx hrx
      have HX := Lib.hid hx; have HC := Lib.hid hcall; clear hx hcall
      cases hpx : p x
      · go_wp2_with (fail)
        refine Calls.mono HC.out ?_
        rintro e w2 ⟨rfl, hB2⟩
        go_wp2
        go_roundg (xs.length + 1 - (k + 1))
        case rel => exact ⟨k + 1, by omega, rfl, by go_num, by rw [any_take HX.out, HQ.out, hpx]; rfl, hB.trans (hB2.mono hB.size)⟩
        case measure => omega
      · go_wp2_with (fail)
        refine Calls.mono HC.out ?_
        rintro e w2 ⟨rfl, hB2⟩
        go_wp2
        go_ret
        exact ⟨ret_int (idxB_found HQ.out HX.out hpx).symm, hB.trans (hB2.mono hB.size)⟩
    · go_wp2
      go_ret
      exact ⟨ret_int (by rw [idxB_none]; have := HQ.out; rwa [take_all (by omega)] at this), hB⟩

theorem ContainsFunc_int (xs : List Int) (p : Int → Bool) (v : Value) (g : FuncId) (caps : Array Value) (w : World) (he : ∀ (args : Array Value) (w : World), (callFunc g args).run Try.prog w = .ok (.enter g args) w) (hr : Rd w [v] xs)
    (hp : ∀ (w' : World) (i : Nat) x, Below w.heap.size w w' → xs[i]? = some x → rd w' (· < w'.heap.size) [One.val x] x → Calls Try.prog g (#[One.val x] ++ caps) w' fun e w'' => e = .returned (.bool (p x)) ∧ Below w'.heap.size w' w'') :
    Calls Try.prog 22 #[v, .func (.func g) #[] caps] w fun e w' => e = .returned (.bool (xs.any p)) ∧ Below w.heap.size w w' := by
  have HPP := Lib.hid hp; clear hp
  go_enter Try.func22, Try.ntmps22
  go_wp2_with (fail)
  refine Calls.mono (IndexFunc_int xs p v g caps w he hr HPP.out) ?_
  rintro e w1 ⟨rfl, hB1⟩
  go_wp2
  go_ret
  exact ⟨ret_bool (by first | exact idxB_nonneg | simpa using idxB_nonneg), hB1⟩

set_option maxHeartbeats 400000 in
theorem IndexFunc_str (xs : List ByteArray) (p : ByteArray → Bool) (v : Value) (g : FuncId) (caps : Array Value) (w : World) (he : ∀ (args : Array Value) (w : World), (callFunc g args).run Try.prog w = .ok (.enter g args) w) (hr : Rd w [v] xs)
    (hp : ∀ (w' : World) (i : Nat) x, Below w.heap.size w w' → xs[i]? = some x → rd w' (· < w'.heap.size) [One.val x] x → Calls Try.prog g (#[One.val x] ++ caps) w' fun e w'' => e = .returned (.bool (p x)) ∧ Below w'.heap.size w' w'') :
    Calls Try.prog 36 #[v, .func (.func g) #[] caps] w fun e w' => e = .returned (.int .i64 (idxB p xs)) ∧ Below w.heap.size w w' := by
  obtain ⟨a, cap, rfl, m1, m2⟩ := rd_open hr
  have HPP := Lib.hid hp; clear hp
  go_enter Try.func36, Try.ntmps36
  go_wp2
  go_loopg [8] (xs.length + 1) (fun gk i wr => ∃ k : Nat, k ≤ xs.length ∧ gk = xs.length + 1 - k ∧ i = .int .i64 k ∧ (xs.take k).any p = false ∧ Below w.heap.size w wr)
  case atStart => exact ⟨0, Nat.zero_le _, by simp, rfl, by simp, Below.refl _ _⟩
  case round =>
    obtain ⟨w1, rfl⟩ : ∃ x : World, x = wr := ⟨_, rfl⟩
    obtain ⟨k, hk, rfl, rfl, hq, hB⟩ := hrel
    have HQ := Lib.hid hq; clear hq
    by_cases hlt : k < xs.length
    · obtain ⟨x, hx⟩ := some_of_lt hlt
      obtain ⟨b, o, rfl, hb, c0, hrx⟩ := (hr.below hB).one hx
      have hcall := HPP.out w1 k x hB hx hrx
      have HX := Lib.hid hx; have HC := Lib.hid hcall; clear hx hcall
      cases hpx : p x
      · go_wp2_with (fail)
        refine Calls.mono HC.out ?_
        rintro e w2 ⟨rfl, hB2⟩
        go_wp2
        go_roundg (xs.length + 1 - (k + 1))
        case rel => exact ⟨k + 1, by omega, rfl, by go_num, by rw [any_take HX.out, HQ.out, hpx]; rfl, hB.trans (hB2.mono hB.size)⟩
        case measure => omega
      · go_wp2_with (fail)
        refine Calls.mono HC.out ?_
        rintro e w2 ⟨rfl, hB2⟩
        go_wp2
        go_ret
        exact ⟨ret_int (idxB_found HQ.out HX.out hpx).symm, hB.trans (hB2.mono hB.size)⟩
    · go_wp2
      go_ret
      exact ⟨ret_int (by rw [idxB_none]; have := HQ.out; rwa [take_all (by omega)] at this), hB⟩

theorem ContainsFunc_str (xs : List ByteArray) (p : ByteArray → Bool) (v : Value) (g : FuncId) (caps : Array Value) (w : World) (he : ∀ (args : Array Value) (w : World), (callFunc g args).run Try.prog w = .ok (.enter g args) w) (hr : Rd w [v] xs)
    (hp : ∀ (w' : World) (i : Nat) x, Below w.heap.size w w' → xs[i]? = some x → rd w' (· < w'.heap.size) [One.val x] x → Calls Try.prog g (#[One.val x] ++ caps) w' fun e w'' => e = .returned (.bool (p x)) ∧ Below w'.heap.size w' w'') :
    Calls Try.prog 28 #[v, .func (.func g) #[] caps] w fun e w' => e = .returned (.bool (xs.any p)) ∧ Below w.heap.size w w' := by
  have HPP := Lib.hid hp; clear hp
  go_enter Try.func28, Try.ntmps28
  go_wp2_with (fail)
  refine Calls.mono (IndexFunc_str xs p v g caps w he hr HPP.out) ?_
  rintro e w1 ⟨rfl, hB1⟩
  go_wp2
  go_ret
  exact ⟨ret_bool (by first | exact idxB_nonneg | simpa using idxB_nonneg), hB1⟩

set_option maxHeartbeats 400000 in
theorem IndexFunc_byte (xs : List U8) (p : U8 → Bool) (v : Value) (g : FuncId) (caps : Array Value) (w : World) (he : ∀ (args : Array Value) (w : World), (callFunc g args).run Try.prog w = .ok (.enter g args) w) (hr : Rd w [v] xs)
    (hp : ∀ (w' : World) (i : Nat) x, Below w.heap.size w w' → xs[i]? = some x → rd w' (· < w'.heap.size) [One.val x] x → Calls Try.prog g (#[One.val x] ++ caps) w' fun e w'' => e = .returned (.bool (p x)) ∧ Below w'.heap.size w' w'') :
    Calls Try.prog 39 #[v, .func (.func g) #[] caps] w fun e w' => e = .returned (.int .i64 (idxB p xs)) ∧ Below w.heap.size w w' := by
  obtain ⟨a, cap, rfl, m1, m2⟩ := rd_open hr
  have HPP := Lib.hid hp; clear hp
  go_enter Try.func39, Try.ntmps39
  go_wp2
  go_loopg [8] (xs.length + 1) (fun gk i wr => ∃ k : Nat, k ≤ xs.length ∧ gk = xs.length + 1 - k ∧ i = .int .i64 k ∧ (xs.take k).any p = false ∧ Below w.heap.size w wr)
  case atStart => exact ⟨0, Nat.zero_le _, by simp, rfl, by simp, Below.refl _ _⟩
  case round =>
    obtain ⟨w1, rfl⟩ : ∃ x : World, x = wr := ⟨_, rfl⟩
    obtain ⟨k, hk, rfl, rfl, hq, hB⟩ := hrel
    have HQ := Lib.hid hq; clear hq
    by_cases hlt : k < xs.length
    · obtain ⟨x, hx⟩ := some_of_lt hlt
      obtain ⟨b, o, rfl, hb, c0, hrx⟩ := (hr.below hB).one hx
      have hcall := HPP.out w1 k x hB hx hrx
      have HX := Lib.hid hx; have HC := Lib.hid hcall; clear hx hcall
      cases hpx : p x
      · go_wp2_with (fail)
        refine Calls.mono HC.out ?_
        rintro e w2 ⟨rfl, hB2⟩
        go_wp2
        go_roundg (xs.length + 1 - (k + 1))
        case rel => exact ⟨k + 1, by omega, rfl, by go_num, by rw [any_take HX.out, HQ.out, hpx]; rfl, hB.trans (hB2.mono hB.size)⟩
        case measure => omega
      · go_wp2_with (fail)
        refine Calls.mono HC.out ?_
        rintro e w2 ⟨rfl, hB2⟩
        go_wp2
        go_ret
        exact ⟨ret_int (idxB_found HQ.out HX.out hpx).symm, hB.trans (hB2.mono hB.size)⟩
    · go_wp2
      go_ret
      exact ⟨ret_int (by rw [idxB_none]; have := HQ.out; rwa [take_all (by omega)] at this), hB⟩

theorem ContainsFunc_byte (xs : List U8) (p : U8 → Bool) (v : Value) (g : FuncId) (caps : Array Value) (w : World) (he : ∀ (args : Array Value) (w : World), (callFunc g args).run Try.prog w = .ok (.enter g args) w) (hr : Rd w [v] xs)
    (hp : ∀ (w' : World) (i : Nat) x, Below w.heap.size w w' → xs[i]? = some x → rd w' (· < w'.heap.size) [One.val x] x → Calls Try.prog g (#[One.val x] ++ caps) w' fun e w'' => e = .returned (.bool (p x)) ∧ Below w'.heap.size w' w'') :
    Calls Try.prog 37 #[v, .func (.func g) #[] caps] w fun e w' => e = .returned (.bool (xs.any p)) ∧ Below w.heap.size w w' := by
  have HPP := Lib.hid hp; clear hp
  go_enter Try.func37, Try.ntmps37
  go_wp2_with (fail)
  refine Calls.mono (IndexFunc_byte xs p v g caps w he hr HPP.out) ?_
  rintro e w1 ⟨rfl, hB1⟩
  go_wp2
  go_ret
  exact ⟨ret_bool (by first | exact idxB_nonneg | simpa using idxB_nonneg), hB1⟩
end Go.Proofs.Ytalkonicppbgdaa
