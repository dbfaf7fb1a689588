/-
  Contracts of leaf's in, word.
-/
import Derived.Test.YtalkonicppbgdaaFuncs
import Derived.Test.YtalkonicppbgdaaOwn
namespace Go.Proofs.Ytalkonicppbgdaa
open Go.RowKit Go.PB

theorem in1_any (n lo hi : Int) (p q : Addr) (w : World) (h1 : w.cell? p = some (.int .i64 lo)) (h2 : w.cell? q = some (.int .i64 hi)) :
    Calls Try.prog 23 #[.int .i64 n, .pointer (some p), .pointer (some q)] w fun e w' => e = .returned (.bool (!inB n lo hi)) ∧ Below w.heap.size w w' := by
  by_cases h : lo ≤ n <;> by_cases h3 : n ≤ hi
  all_goals
    go_enter Try.func23, Try.ntmps23
    go_wp2
    go_ret
    exact ⟨ret_bool (by simp [inB, h, h3] <;> omega), Below.refl _ _⟩

/-- whether all numbers are from lo to hi -/
theorem in_any (xs : List Int) (lo hi : Int) (v : Value) (w : World) (hr : Rd w [v] xs) :
    Calls Try.prog 13 #[.int .i64 lo, .int .i64 hi, v] w fun e w' => e = .returned (.bool (xs.all fun n => inB n lo hi)) ∧ Below w.heap.size w w' := by
  go_enter Try.func13, Try.ntmps13
  go_wp2_with (fail)
  refine Calls.mono (ContainsFunc_int xs (fun n => !inB n lo hi) v 23 #[.pointer (some ⟨w.heap.size, 0, none⟩), .pointer (some ⟨w.heap.size + 1, 0, none⟩)] _ Try.call23 (hr.below (by repeat (first | exact Below.refl _ _ | assumption | refine Below.drew ?_ | refine below_drewN ?_ _ | refine Below.alloc ?_ (by first | exact Nat.le_refl _ | omega | (simp; done) | (simp; omega) | (simp at *; omega)) _ | refine Below.setCell ?_ (by first | exact Nat.le_refl _ | omega | (simp; done) | (simp; omega) | (simp at *; omega)) _ | refine Below.grown ?_ (by assumption) (by first | exact Nat.le_refl _ | omega | (simp; done) | (simp; omega) | (simp at *; omega)) (by first | assumption | (intro _ hk; simp [Value.ownBlock] at hk; omega))))) ?_) ?_
  · intro w' i x hB _ _
    exact in1_any x lo hi _ _ w' ((hB.cell (by simp; try omega)).trans (by simp)) ((hB.cell (by simp; try omega)).trans (by simp))
  rintro e w1 ⟨rfl, hB1⟩
  go_wp2
  go_ret
  exact ⟨ret_bool (by rw [List.not_any_eq_all_not]; simp), Below.trans (by repeat (first | exact Below.refl _ _ | assumption | refine Below.drew ?_ | refine below_drewN ?_ _ | refine Below.alloc ?_ (by first | exact Nat.le_refl _ | omega | (simp; done) | (simp; omega) | (simp at *; omega)) _ | refine Below.setCell ?_ (by first | exact Nat.le_refl _ | omega | (simp; done) | (simp; omega) | (simp at *; omega)) _ | refine Below.grown ?_ (by assumption) (by first | exact Nat.le_refl _ | omega | (simp; done) | (simp; omega) | (simp at *; omega)) (by first | assumption | (intro _ hk; simp [Value.ownBlock] at hk; omega)))) (hB1.mono (by simp; omega))⟩

/-- a new row of numbers -/
theorem rd_new_int {w : World} (n : Int) (e : TypeId) (hn : I64 n) : Rd (w.alloc (.cells #[.int .i64 n] e)) [.slice (some ⟨w.heap.size, 0, none⟩) 1 1] [n] := by
  refine ⟨some ⟨w.heap.size, 0, none⟩, 1, rfl, Nat.le_refl _, by simp [maxLen], .inr ⟨w.heap.size, 0, rfl, by simp, fun i x hx => ?_⟩⟩
  cases i with
  | zero =>
    simp at hx
    subst hx
    refine ⟨[.int .i64 n], ⟨rfl, hn⟩, fun j e he => ?_⟩
    cases j with
    | zero => simp at he; subst he; simp
    | succ j => simp at he
  | succ i => simp at hx

theorem in_one (n lo hi : Int) (w : World) (hn : I64 n) :
    Calls Try.prog 13 #[.int .i64 lo, .int .i64 hi, .slice (some ⟨w.heap.size, 0, none⟩) 1 1] (w.alloc (.cells #[.int .i64 n] 3)) fun e w' => e = .returned (.bool (inB n lo hi)) ∧ Below w.heap.size w w' := by
  refine Calls.mono (in_any [n] lo hi _ _ (rd_new_int n _ hn)) ?_
  rintro e w1 ⟨rfl, hB1⟩
  exact ⟨ret_bool (by simp), Below.trans (by repeat (first | exact Below.refl _ _ | assumption | refine Below.drew ?_ | refine below_drewN ?_ _ | refine Below.alloc ?_ (by first | exact Nat.le_refl _ | omega | (simp; done) | (simp; omega) | (simp at *; omega)) _ | refine Below.setCell ?_ (by first | exact Nat.le_refl _ | omega | (simp; done) | (simp; omega) | (simp at *; omega)) _ | refine Below.grown ?_ (by assumption) (by first | exact Nat.le_refl _ | omega | (simp; done) | (simp; omega) | (simp at *; omega)) (by first | assumption | (intro _ hk; simp [Value.ownBlock] at hk; omega)))) (hB1.mono (by simp))⟩

theorem in_at (n lo hi : Int) (w : World) (b : Nat) (hb : b = w.heap.size) (hn : I64 n) :
    Calls Try.prog 13 #[.int .i64 lo, .int .i64 hi, .slice (some ⟨b, 0, none⟩) 1 1] (w.alloc (.cells #[.int .i64 n] 3)) fun e w' => e = .returned (.bool (inB n lo hi)) ∧ Below w.heap.size w w' := by
  subst hb
  exact in_one n lo hi w hn

/-! ### words -/
def u8s (s : ByteArray) : List U8 := s.data.toList.map fun b => ⟨b.toNat⟩
theorem word1_any (x : U8) (w : World) :
    Calls Try.prog 38 #[One.val x] w fun e w' => e = .returned (.bool (decide (x.v < 97) || decide (122 < x.v))) ∧ Below w.heap.size w w' := by
  obtain ⟨n⟩ := x
  show Calls _ _ #[.int .u8 n] _ _
  by_cases h : n < 97 <;> by_cases h3 : 122 < n
  all_goals
    go_enter Try.func38, Try.ntmps38
    go_wp2
    go_ret
    exact ⟨ret_bool (by simp; try omega), Below.refl _ _⟩

theorem any_u8s (s : ByteArray) : (u8s s).any (fun x => decide (x.v < 97) || decide (122 < x.v)) = !s.data.toList.all okc := by
  unfold u8s
  rw [List.any_map]
  induction s.data.toList with
  | nil => rfl
  | cons b l ih =>
    simp only [List.any_cons, List.all_cons, ih, Function.comp, okc, Bool.not_and]
    congr 1
    have e1 : decide (((b.toNat : Nat) : Int) < 97) = !decide (97 ≤ b.toNat) := by by_cases h : 97 ≤ b.toNat <;> simp [h] <;> omega
    have e2 : decide ((122 : Int) < ((b.toNat : Nat) : Int)) = !decide (b.toNat ≤ 122) := by by_cases h : b.toNat ≤ 122 <;> simp [h] <;> omega
    rw [e1, e2]

/-- []byte(s) reads as the letters -/
theorem rd_bytes (s : ByteArray) (cap : Nat) (e : TypeId) (fr : Nat × Nat) (w : World) (h : s.size ≤ cap) (hm : cap ≤ maxLen) :
    Rd (w.alloc (.cells (bytesRow s cap) e fr)) [.slice (some ⟨w.heap.size, 0, none⟩) s.size cap] (u8s s) := by
  have hl : (u8s s).length = s.size := by simp [u8s]
  refine ⟨some ⟨w.heap.size, 0, none⟩, cap, by rw [hl], by rw [hl]; exact h, hm, .inr ⟨w.heap.size, 0, rfl, by simp, fun i x hx => ?_⟩⟩
  have hi := lt_of_some hx
  rw [hl] at hi
  have hx' : x = ⟨(s[i] : UInt8).toNat⟩ := by
    have h1 : (u8s s)[i]? = some ⟨(s[i] : UInt8).toNat⟩ := by
      unfold u8s
      rw [List.getElem?_map, Array.getElem?_toList, Array.getElem?_eq_getElem hi]
      rfl
    rw [h1] at hx
    exact (Option.some.inj hx).symm
  subst hx'
  refine ⟨[.int .u8 (s[i] : UInt8).toNat], ⟨rfl, WalkArith.wf_u8 ⟨by simp only []; omega, by have := (s[i] : UInt8).toNat_lt; simp only []; omega⟩⟩, fun j e' he => ?_⟩
  cases j with
  | succ j => simp at he
  | zero =>
    simp at he
    subst he
    have := World.cell?_alloc_mark w (bytesRow s cap) e fr (0 + i * 1)
    simp only [Rep.n, Nat.add_zero]
    refine this.trans ?_
    simp only [Nat.zero_add, Nat.mul_one, bytesRow]
    rw [Array.getElem?_append_left (by simpa using hi)]
    rw [Array.getElem?_map, Array.getElem?_eq_getElem hi]
    rfl

theorem word_any (s : ByteArray) (w : World) (hs : s.size ≤ 9223372036854775807) :
    Calls Try.prog 30 #[.string s] w fun e w' => e = .returned (.bool (wordB s)) ∧ Below w.heap.size w w' := by
  cases h : inB s.size 1 12
  · go_enter Try.func30, Try.ntmps30
    go_wp2_with (fail)
    refine Calls.mono (in_one s.size 1 12 w (I64.of (by omega))) ?_
    rintro e w1 ⟨rfl, hB1⟩
    go_wp2
    go_ret
    exact ⟨ret_bool (by simp [wordB, h]), hB1⟩
  · go_enter Try.func30, Try.ntmps30
    go_wp2_with (fail)
    refine Calls.mono (in_one s.size 1 12 w (I64.of (by omega))) ?_
    rintro e w1 ⟨rfl, hB1⟩
    have hcv := run_bytes_of_string (P := Try.prog) w1 9 81 5 s Try.underlying9 Try.underlying81 Try.underlying5
    have hcap : s.size ≤ grownCap w1 s.size 0 5 := grownCap_ge w1 _ _ _
    have hcm : grownCap w1 s.size 0 5 ≤ maxLen := grownCap_le_maxLen w1 _ _ _ (by simpa [maxLen] using hs)
    have hrb := (rd_bytes s (grownCap w1 s.size 0 5) 5 ((bytesRow s (grownCap w1 s.size 0 5)).size, (bytesRow s (grownCap w1 s.size 0 5)).size + 1) w1 hcap hcm).drew
    have HRB := Lib.hid hrb; clear hrb hcap hcm
    go_wp2_with (fail)
    refine Calls.mono (ContainsFunc_byte (u8s s) (fun x => decide (x.v < 97) || decide (122 < x.v)) _ 38 #[] _ Try.call38 HRB.out (fun w' i x _ _ _ => word1_any x w')) ?_
    rintro e w2 ⟨rfl, hB2⟩
    have hz1 := hB1.size
    have hW : Below w.heap.size w w2 := Below.trans (by repeat (first | exact Below.refl _ _ | assumption | refine Below.drew ?_ | refine below_drewN ?_ _ | refine Below.alloc ?_ (by first | exact Nat.le_refl _ | omega | (simp; done) | (simp; omega) | (simp at *; omega)) _ | refine Below.setCell ?_ (by first | exact Nat.le_refl _ | omega | (simp; done) | (simp; omega) | (simp at *; omega)) _ | refine Below.grown ?_ (by assumption) (by first | exact Nat.le_refl _ | omega | (simp; done) | (simp; omega) | (simp at *; omega)) (by first | assumption | (intro _ hk; simp [Value.ownBlock] at hk; omega)))) (hB2.mono (by simp; omega))
    rw [any_u8s]
    clear hcv HRB
    go_wp2
    go_ret
    exact ⟨ret_bool (by simp [wordB, h]), hW⟩

theorem Check1_any (s : ByteArray) (w : World) (hs : s.size ≤ 9223372036854775807) :
    Calls Try.prog 29 #[.string s] w fun e w' => e = .returned (.bool (!wordB s)) ∧ Below w.heap.size w w' := by
  go_enter Try.func29, Try.ntmps29
  go_wp2_with (fail)
  refine Calls.mono (word_any s w hs) ?_
  rintro e w1 ⟨rfl, hB1⟩
  go_wp2
  go_ret
  exact ⟨rfl, hB1⟩
end Go.Proofs.Ytalkonicppbgdaa
